/- Contracts and plain laws for the statement FnDoob, part 13. No conditions but those stated in each. -/
import Derived.Test.YtnbomleieianoaaBnFnDoob10
import Derived.Test.YtnbomleieianoaaBnFnDoob8
import Derived.Test.YtnbomleieianoaaBnFnDoob1
import Derived.Test.YtnbomleieianoaaBnFnDoob6
import Derived.Test.YtnbomleieianoaaBnFnDoob2
import Derived.Test.YtnbomleieianoaaBnFnDoob3
import Derived.Deep.DeepCutAuto
/- Contracts: what a seer has, the bound of a balanced list, by the program. -/
namespace Go.Proofs.Ytnbomleieianoaa
open Go.RowKit

def boN (c : Bool) (ps ws pay num : List Int) : Int := if c then nm (bndS ps ws pay num) (nth (sums ps ws) 0) else 0
def boD (c : Bool) (ps ws pay num : List Int) : Int := if c then dn (bndS ps ws pay num) (nth (sums ps ws) 0) else 0
theorem bo_no {c : Bool} {ps ws pay num : List Int} (h : c = false) : boN c ps ws pay num = 0 ∧ boD c ps ws pay num = 0 := by subst h; exact ⟨rfl, rfl⟩
theorem bo_yes {c : Bool} {ps ws pay num : List Int} (h : c = true) : boN c ps ws pay num = nm (bndS ps ws pay num) (nth (sums ps ws) 0) ∧ boD c ps ws pay num = dn (bndS ps ws pay num) (nth (sums ps ws) 0) := by subst h; exact ⟨rfl, rfl⟩
def zeL (ps : List Int) : List Int := List.replicate ps.length 0
theorem nth_zeL (ps : List Int) (i : Nat) : -999 ≤ nth (zeL ps) i ∧ nth (zeL ps) i ≤ 999 := by rw [zeL, nth_replicate]; omega
def bbB (ps ws pay num : List Int) : Bool := balV ps ws num && paysB ps ws pay
end Go.Proofs.Ytnbomleieianoaa

/- Contracts: totals, means, the bound of a list, what a seer has, by the reference. -/
namespace Go.Proofs.Ytnbomleieianoaa
open Go.RowKit

theorem Ints.away {w : World} {a : Option Addr} {n : Nat} {xs : List Int} (h : Ints w a n xs) {g i : Nat} (ha : ∀ p, a = some p → p.block ≠ g) (u : Value) : Ints (w.setCell ⟨g, i, none⟩ u) a n xs :=
  ⟨h.1, fun hn => by
    obtain ⟨b, off, rfl, hb, hc⟩ := h.2 hn
    exact ⟨b, off, rfl, by simpa using hb, fun j hj => cell_far (hc j hj) (ha ⟨b, off, none⟩ rfl)⟩⟩
/-- Zeros and the ends, just made, apart from each other. -/
def TotR (u wc : World) (n : Nat) (es : List Int) (v5 v6 : Value) : Prop :=
  KeepR u wc ∧ ∃ (g5 : Nat) (a6 : Option Addr) (c6 : Nat), v5 = .slice (some ⟨g5, 0, none⟩) n n ∧ v6 = .slice a6 es.length c6 ∧ Own wc u.heap.size v5 (List.replicate n 0) ∧ Ints wc a6 es.length es ∧ (∀ p, a6 = some p → p.block ≠ g5)
theorem tot_mk {u wc : World} {n : Nat} {es : List Int} {v6 : Value} {b5 b6 g5 : Nat} (hk : KeepR u wc) (h5 : Own wc b5 (.slice (some ⟨g5, 0, none⟩) n n) (List.replicate n 0)) (hb : u.heap.size ≤ b5) (h6 : Own wc b6 v6 es) (s6 : ∀ q, v6.ownBlock = some q → q ≠ g5) : TotR u wc n es (.slice (some ⟨g5, 0, none⟩) n n) v6 := by
  obtain ⟨a6, c6, rfl⟩ := h6.shape
  exact ⟨hk, g5, a6, c6, rfl, rfl, h5.mono hb, h6.ints, fun p hp => by subst hp; exact s6 _ rfl⟩
end Go.Proofs.Ytnbomleieianoaa

/- Contracts: the means at the nodes, by the reference. -/
namespace Go.Proofs.Ytnbomleieianoaa
open Go.RowKit

namespace Fr
end Fr
/-- The means at the nodes. -/
def meanL (ps ws : List Int) (V : Nat → Int) : List (Int × Int) := (List.range ps.length).map fun x => (nm (nth (totA ps ws V) x) (nth (sums ps ws) x), dn (nth (totA ps ws V) x) (nth (sums ps ws) x))
theorem meanL_length (ps ws : List Int) (V : Nat → Int) : (meanL ps ws V).length = ps.length := by simp [meanL]
theorem meanL_take (ps ws : List Int) (V : Nat → Int) {x : Nat} (hx : x < ps.length) : (meanL ps ws V).take (x + 1) = (meanL ps ws V).take x ++ [(nm (nth (totA ps ws V) x) (nth (sums ps ws) x), dn (nth (totA ps ws V) x) (nth (sums ps ws) x))] := by
  rw [List.take_succ_eq_append_getElem (by rw [meanL_length]; exact hx)]
  simp [meanL]
theorem meanL_root {ps ws : List Int} {V : Nat → Int} (h : 0 < ps.length) : Fr.at1 (meanL ps ws V) 0 = nm (nth (totA ps ws V) 0) (nth (sums ps ws) 0) ∧ Fr.at2 (meanL ps ws V) 0 = dn (nth (totA ps ws V) 0) (nth (sums ps ws) 0) := by
  constructor
  · rw [Fr.at1, meanL]; simp [List.getD, h]
  · rw [Fr.at2, meanL]; simp [List.getD, h]
/-- No pairs, sums and totals, just made, apart from each other. -/
def MeanR (u wc : World) (n : Nat) (s t : List Int) (v5 v6 v7 : Value) : Prop :=
  KeepR u wc ∧ ∃ (g5 : Nat) (a6 : Option Addr) (c6 : Nat) (a7 : Option Addr) (c7 : Nat), v5 = .slice (some ⟨g5, 0, none⟩) 0 0 ∧ v6 = .slice a6 n c6 ∧ v7 = .slice a7 n c7 ∧ Fr.Own wc u.heap.size v5 [] ∧ Ints wc a6 n s ∧ Ints wc a7 n t ∧ Apart a6 v5 ∧ Apart a7 v5
theorem mean_mk {u wc : World} {n : Nat} {s t : List Int} {v6 v7 : Value} {b5 b6 b7 g5 : Nat} (hk : KeepR u wc) (hs : s.length = n) (ht : t.length = n) (h5 : Fr.Own wc b5 (.slice (some ⟨g5, 0, none⟩) 0 0) []) (hb : u.heap.size ≤ b5) (h6 : Own wc b6 v6 s) (h7 : Own wc b7 v7 t)
    (s6 : ∀ q, v6.ownBlock = some q → q ≠ g5) (s7 : ∀ q, v7.ownBlock = some q → q ≠ g5) : MeanR u wc n s t (.slice (some ⟨g5, 0, none⟩) 0 0) v6 v7 := by
  obtain ⟨a6, c6, rfl⟩ := h6.shape
  obtain ⟨a7, c7, rfl⟩ := h7.shape
  rw [hs] at h6 s6 ⊢
  rw [ht] at h7 s7 ⊢
  refine ⟨hk, g5, a6, c6, a7, c7, rfl, rfl, rfl, h5.mono hb, h6.ints, h7.ints, fun p hp e => ?_, fun p hp e => ?_⟩
  · subst hp
    simp [Value.ownBlock] at e
    exact s6 _ rfl e.symm
  · subst hp
    simp [Value.ownBlock] at e
    exact s7 _ rfl e.symm
end Go.Proofs.Ytnbomleieianoaa

/- Plain law: the means of pays, and the process that they are. No conditions but those stated. -/
namespace Go.Proofs.Ytnbomleieianoaa

theorem hasE (ps : List Int) {x : Nat} (hx : x < ps.length) : hasB (ends ps) (x : Int) = endB ps x := by
  rw [Bool.eq_iff_iff, has_mem, ends, mem_filt]
  constructor
  · rintro ⟨i, _, h2, h3⟩
    have : x = i := by omega
    subst this; exact h2
  · exact fun h => ⟨x, hx, h, rfl⟩
theorem tot_en (ps ws : List Int) (V : Nat → Int) : totA ps ws V = gathA ps (enL ps (fun e => nth ws e * V e)) := by
  have : totK ps ws V (ends ps).length = enL ps (fun e => nth ws e * V e) := by
    unfold totK enL
    refine List.map_congr_left fun x hx => ?_
    rw [List.take_length, hasE ps (by simpa using hx)]
  rw [totA, this]
theorem totA_en (ps ws : List Int) (V : Nat → Int) (x : Nat) : nth (totA ps ws V) x = enG ps (fun e => nth ws e * V e) x := by rw [tot_en]; rfl
theorem tot_inner {ps ws : List Int} (h : Tr ps ws) (V : Nat → Int) {x : Nat} (hx : x < ps.length) (he : endB ps x = false) : nth (totA ps ws V) x = kidSum ps (fun y => nth (totA ps ws V) y) x ps.length := by
  rw [totA_en, enG_inner h.toPa _ hx he]
  exact kidSum_congr fun y _ _ => (totA_en ps ws V y).symm
/-- Totals of small values are small. -/
theorem tot_le {ps ws : List Int} (h : Tr ps ws) {V : Nat → Int} {B : Int} (hV : ∀ x, -B ≤ V x ∧ V x ≤ B) : ∀ x, x < ps.length → -(B * nth (sums ps ws) x) ≤ nth (totA ps ws V) x ∧ nth (totA ps ws V) x ≤ B * nth (sums ps ws) x := by
  refine h.toPa.below ?_
  intro x hx ih
  cases he : endB ps x
  · rw [tot_inner h V hx he, s_inner h hx he]
    have h1 := kidSum_le (ps := ps) (x := x) (f := fun y => nth (totA ps ws V) y) (g := fun y => B * nth (sums ps ws) y) (k := ps.length) fun y hy e => (ih y hy e).2
    have h2 := kidSum_le (ps := ps) (x := x) (f := fun y => (-B) * nth (sums ps ws) y) (g := fun y => nth (totA ps ws V) y) (k := ps.length) fun y hy e => by have := (ih y hy e).1; rw [Int.neg_mul]; exact this
    rw [kidSum_mul] at h1 h2
    rw [Int.neg_mul] at h2
    exact ⟨h2, h1⟩
  · rw [totA_en, enG_end h.toPa _ hx he, s_end h he]
    have hw := h.w0 x
    have h1 := Int.mul_le_mul_of_nonneg_left (hV x).2 hw.1
    have h2 := Int.mul_le_mul_of_nonneg_left (hV x).1 hw.1
    rw [Int.mul_neg] at h2
    rw [Int.mul_comm B]
    exact ⟨h2, h1⟩
theorem tot_bd999 {ps ws : List Int} (h : Tr ps ws) {V : Nat → Int} {B : Int} (hB : 0 ≤ B) (hV : ∀ x, -B ≤ V x ∧ V x ≤ B) {x : Nat} (hx : x < ps.length) : -(B * 480) ≤ nth (totA ps ws V) x ∧ nth (totA ps ws V) x ≤ B * 480 := by
  have h1 := tot_le h hV x hx
  have h2 := (sums_bd h x).2
  have h3 := Int.mul_le_mul_of_nonneg_left h2 hB
  omega
/-- May the pays be asked? -/
def epB (ps ws l : List Int) : Bool := treeB ps ws && ((l.length == (ends ps).length) && allIn l (-999) 999)
/-- The pay at an end. -/
def eV (ps l : List Int) (e : Nat) : Int := nth l ((ends ps).idxOf (e : Int))
theorem ends_nodup (ps : List Int) : (ends ps).Nodup := (filt_asc (endB ps) ps.length).imp fun h => by omega
theorem eV_at {ps l : List Int} {i e : Nat} (hi : i < (ends ps).length) (h : nth (ends ps) i = (e : Int)) : nth l i = eV ps l e := by
  have : (ends ps).idxOf (e : Int) = i := by
    rw [← h, nth_lt hi]
    exact (ends_nodup ps).idxOf_getElem i hi
  rw [eV, this]
theorem epB_t {ps ws l : List Int} (h : epB ps ws l = true) : Tr ps ws ∧ treeB ps ws = true ∧ l.length = (ends ps).length ∧ (∀ i, -999 ≤ nth l i ∧ nth l i ≤ 999) ∧ ∀ e, -999 ≤ eV ps l e ∧ eV ps l e ≤ 999 := by
  simp only [epB, Bool.and_eq_true, beq_iff_eq] at h
  have hl : ∀ i, -999 ≤ nth l i ∧ nth l i ≤ 999 := fun i => by
    by_cases hi : i < l.length
    · exact all_in h.2.2 hi
    · rw [nth_ge (by omega)]; omega
  exact ⟨treeB_t h.1, h.1, h.2.1, hl, fun e => hl _⟩
theorem ep_no1 {ps ws l : List Int} (h : treeB ps ws = false) : epB ps ws l = false := by rw [epB, h]; rfl
theorem ep_no2 {ps ws l : List Int} (h : ¬ l.length = (ends ps).length) : epB ps ws l = false := by simp [epB, h]
theorem ep_no3 {ps ws l : List Int} (h : allIn l (-999) 999 = false) : epB ps ws l = false := by simp [epB, h]
theorem ep_yes {ps ws l : List Int} (h : treeB ps ws = true) (h2 : l.length = (ends ps).length) (h3 : allIn l (-999) 999 = true) : epB ps ws l = true := by simp [epB, h, h2, h3]
/-- The means of pays, where they may be asked. -/
def mofV (ps ws l : List Int) : List (Int × Int) := if epB ps ws l then meanL ps ws (eV ps l) else []
theorem mofV_no {ps ws l : List Int} (h : epB ps ws l = false) : mofV ps ws l = [] := by rw [mofV, h]; rfl
theorem mofV_yes {ps ws l : List Int} (h : epB ps ws l = true) : mofV ps ws l = meanL ps ws (eV ps l) := by rw [mofV, if_pos h]
theorem meanL_at {ps ws : List Int} {V : Nat → Int} {x : Nat} (h : x < ps.length) : Fr.at1 (meanL ps ws V) x = nm (nth (totA ps ws V) x) (nth (sums ps ws) x) ∧ Fr.at2 (meanL ps ws V) x = dn (nth (totA ps ws V) x) (nth (sums ps ws) x) := by
  constructor
  · rw [Fr.at1, meanL]; simp [List.getD, h]
  · rw [Fr.at2, meanL]; simp [List.getD, h]
/-- Whether the means are a process of whole numbers, and that process. -/
def fpB (ps ws l : List Int) : Bool := epB ps ws l && (List.range ps.length).all fun x => Fr.at2 (meanL ps ws (eV ps l)) x == 1
def fpL (ps ws l : List Int) : List Int := (List.range ps.length).map fun x => Fr.at1 (meanL ps ws (eV ps l)) x
def fpV (ps ws l : List Int) : List Int := if fpB ps ws l then fpL ps ws l else []
theorem fp_no1 {ps ws l : List Int} (h : epB ps ws l = false) : fpB ps ws l = false := by rw [fpB, h]; rfl
theorem fp_no2 {ps ws l : List Int} {x : Nat} (hx : x < ps.length) (h : ¬ Fr.at2 (meanL ps ws (eV ps l)) x = 1) : fpB ps ws l = false := by
  rw [fpB, all_f hx (by simp [h]), Bool.and_false]
theorem fp_yes {ps ws l : List Int} (h : epB ps ws l = true) (h2 : ∀ x, x < ps.length → Fr.at2 (meanL ps ws (eV ps l)) x = 1) : fpB ps ws l = true := by
  rw [fpB, h, Bool.true_and]; exact all_t fun x hx => by simp [h2 x hx]
theorem fpV_no {ps ws l : List Int} (h : fpB ps ws l = false) : fpV ps ws l = [] := by rw [fpV, h]; rfl
theorem fpV_yes {ps ws l : List Int} (h : fpB ps ws l = true) : fpV ps ws l = fpL ps ws l := by rw [fpV, if_pos h]
theorem fpB_t {ps ws l : List Int} (h : fpB ps ws l = true) : epB ps ws l = true ∧ ∀ x, x < ps.length → Fr.at2 (meanL ps ws (eV ps l)) x = 1 := by
  rw [fpB, Bool.and_eq_true] at h
  exact ⟨h.1, fun x hx => by simpa using all_get h.2 hx⟩
theorem fpL_length (ps ws l : List Int) : (fpL ps ws l).length = ps.length := by simp [fpL]
theorem fpL_take (ps ws l : List Int) {x : Nat} (hx : x < ps.length) : (fpL ps ws l).take (x + 1) = (fpL ps ws l).take x ++ [Fr.at1 (meanL ps ws (eV ps l)) x] := by
  rw [take_succ_nth (by rw [fpL_length]; exact hx), fpL, nth_map_range hx]
theorem fp_tot {ps ws l : List Int} (h : fpB ps ws l = true) {x : Nat} (hx : x < ps.length) : nth (sums ps ws) x * nth (fpL ps ws l) x = nth (totA ps ws (eV ps l)) x := by
  obtain ⟨h1, h2⟩ := fpB_t h
  obtain ⟨hT, _⟩ := epB_t h1
  have hs := sums_pos hT x hx
  have hm := nm_mul (nth (totA ps ws (eV ps l)) x) (nth (sums ps ws) x) (by omega)
  have h3 := h2 x hx
  rw [(meanL_at hx).2] at h3
  rw [h3, Int.mul_one] at hm
  rw [fpL, nth_map_range hx, (meanL_at hx).1, Int.mul_comm]
  exact hm
/-- The means of pays are a fair process. -/
theorem fp_fair {ps ws l : List Int} (h : fpB ps ws l = true) : paysB ps ws (fpL ps ws l) = true ∧ balB ps ws (fpL ps ws l) = true := by
  obtain ⟨h1, h2⟩ := fpB_t h
  obtain ⟨hT, ht, _, _, hV⟩ := epB_t h1
  refine ⟨pays_both ht ?_, bal_yes fun x hx => ?_⟩
  · rw [procB, fpL_length]
    simp only [beq_self_eq_true, Bool.true_and]
    refine all_t fun i hi => ?_
    rw [fpL_length] at hi
    have h3 := fp_tot h hi
    have h4 := tot_le hT hV i hi
    have h5 := sums_pos hT i hi
    rw [← h3] at h4
    generalize nth (fpL ps ws l) i = v at *
    generalize nth (sums ps ws) i = s at *
    refine inB_mk ?_ ?_
    · exact Int.le_of_mul_le_mul_left (a := s) (by rw [Int.mul_neg, Int.mul_comm s 999]; exact h4.1) (by omega)
    · exact Int.le_of_mul_le_mul_left (a := s) (by rw [Int.mul_comm s 999]; exact h4.2) (by omega)
  · cases he : endB ps x
    · rw [(dr_bal hT hx)]
      refine .inr ?_
      rw [fp_tot h hx, tot_inner hT _ hx he]
      exact kidSum_congr fun y hy _ => (fp_tot h hy).symm
    · exact kidSum_end he (Nat.le_refl _)
end Go.Proofs.Ytnbomleieianoaa

/- Contracts: the means of pays and the process that they are, by the program. -/
namespace Go.Proofs.Ytnbomleieianoaa
open Go.RowKit

end Go.Proofs.Ytnbomleieianoaa

/- Contracts: means of pays and the process that they are, of the program and of the reference. -/
namespace Go.Proofs.Ytnbomleieianoaa
open Go.RowKit

namespace Fr
theorem Ints.moved {w w' : World} {a : Option Addr} {n : Nat} {xs : List (Int × Int)} {v v' : Value} (h : Ints w a n xs) (hm : Moved w v w' v') (ha : 0 < n → Apart a v) : Ints w' a n xs ∧ (0 < n → Apart a v') := by
  refine ⟨⟨h.1, fun hn => ?_⟩, fun hn p hp => ?_⟩
  · obtain ⟨b, off, rfl, hb, hc⟩ := h.2 hn
    have hk := hm.2 b hb (ha hn _ rfl)
    exact ⟨b, off, rfl, Nat.lt_of_lt_of_le hb hm.1, fun j hj => ⟨(World.cell?_of_block (a := ⟨b, off + j * 2, none⟩) hk.2).trans (hc j hj).1, (World.cell?_of_block (a := ⟨b, off + j * 2 + 1, none⟩) hk.2).trans (hc j hj).2⟩⟩
  · obtain ⟨b, off, rfl, hb, _⟩ := h.2 hn
    cases hp
    exact (hm.2 b hb (ha hn _ rfl)).1
end Fr
end Go.Proofs.Ytnbomleieianoaa
