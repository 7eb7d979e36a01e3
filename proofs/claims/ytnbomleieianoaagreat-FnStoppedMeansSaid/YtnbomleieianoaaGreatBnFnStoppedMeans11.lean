/- Contracts and plain laws for the statement FnStoppedMeans, part 11. No conditions but those stated in each. -/
import Derived.Test.YtnbomleieianoaaGreatBnFnStoppedMeans1
import Derived.Test.YtnbomleieianoaaGreatBnFnStoppedMeans5
import Derived.Test.YtnbomleieianoaaGreatBnFnStoppedMeans4
import Derived.Deep.DeepCutAuto
import Derived.Deep.Cut
import Derived.Lib.SliceRun
import Derived.Test.YtnbomleieianoaaGreatBnFnStoppedMeans12
import Derived.Test.YtnbomleieianoaaGreatBnFnStoppedMeans10
/- Contract: what each node is worth with some steps, by the program. -/
namespace Go.Proofs.YtnbomleieianoaaGreat
open Go.RowKit

theorem grown_cell (w : World) (b i : Nat) (v : Value) : w.grownBy (w.setCell ⟨b, i, none⟩ v) (some b) :=
  ⟨rfl, rfl, rfl, by simp [World.setCell], fun k _ hk => Below.heap_setCell _ _ _ _ (fun e => hk (by simp [e]))⟩
theorem grown_drew {w w' : World} {r : Option Nat} (h : w.grownBy w' r) : w.grownBy w'.drew r := ⟨h.os, h.tape, h.output, h.size, h.block⟩
theorem grown_drewN' {w w' : World} {r : Option Nat} (h : w.grownBy w' r) (m : Nat) : w.grownBy (w'.drewN m) r := ⟨h.os, h.tape, h.output, h.size, h.block⟩
/-- The numbers from o on, m of them, turned to 0. -/
def zeroF (xs : List Int) (o : Nat) : Nat → List Int
  | 0 => xs
  | m + 1 => zeroF (xs.set o 0) (o + 1) m
theorem zeroF_length (xs : List Int) (o m : Nat) : (zeroF xs o m).length = xs.length := by
  induction m generalizing xs o with
  | zero => rfl
  | succ m ih => rw [zeroF, ih]; simp
theorem nth_zeroF (xs : List Int) (o m j : Nat) (h : o + m ≤ xs.length) : nth (zeroF xs o m) j = if o ≤ j ∧ j < o + m then 0 else nth xs j := by
  induction m generalizing xs o with
  | zero => rw [zeroF, if_neg (by omega)]
  | succ m ih =>
    rw [zeroF, ih _ _ (by simp; omega), nth_set (by omega)]
    by_cases h1 : o = j
    · subst h1; rw [if_neg (by omega), if_pos rfl, if_pos (by omega)]
    · rw [if_neg h1]
      by_cases h2 : o + 1 ≤ j ∧ j < o + 1 + m
      · rw [if_pos h2, if_pos (by omega)]
      · rw [if_neg h2, if_neg (by omega)]
theorem zeroF_all (xs : List Int) : zeroF xs 0 xs.length = List.replicate xs.length 0 := ext_nth (by rw [zeroF_length]; simp) fun i hi => by
  rw [zeroF_length] at hi
  rw [nth_zeroF _ _ _ _ (by omega), if_pos (by omega), nth_replicate]
theorem own_zeroF {base g n cap : Nat} : ∀ (m o : Nat) (w : World) (xs : List Int), Own w base (.slice (some ⟨g, 0, none⟩) n cap) xs → n = xs.length →
    Own (w.setCells g o (List.replicate m (.int .i64 0))) base (.slice (some ⟨g, 0, none⟩) n cap) (zeroF xs o m) ∧ w.grownBy (w.setCells g o (List.replicate m (.int .i64 0))) (some g)
  | 0, _, w, xs, h, _ => ⟨h, World.grownBy.refl _ _⟩
  | m + 1, o, w, xs, h, hn => by
    have h1 := h.set hn o 0
    have ih := own_zeroF m (o + 1) _ _ h1 (by simp [hn])
    exact ⟨ih.1, (grown_cell w g o _).trans ih.2⟩
theorem own_clear {w : World} {base g n cap : Nat} {xs : List Int} (h : Own w base (.slice (some ⟨g, 0, none⟩) n cap) xs) (hn : n = xs.length) :
    Own (w.setCells g 0 (List.replicate n (.int .i64 0))) base (.slice (some ⟨g, 0, none⟩) n cap) (List.replicate n 0) ∧ w.grownBy (w.setCells g 0 (List.replicate n (.int .i64 0))) (some g) := by
  have := own_zeroF n 0 w xs h hn
  rw [hn, zeroF_all, ← hn] at this
  exact this
theorem zero_int : ∀ w, (zeroValue 3).run Tryz.prog w = .ok (.int .i64 0) w := fun w => by kernel_rfl
/-- 'clear(xs)'. -/
theorem clear_run {w : World} {base g n cap : Nat} {xs : List Int} (h : Own w base (.slice (some ⟨g, 0, none⟩) n cap) xs) (hn : n = xs.length) (h0 : 0 < n) (ty : TypeId) :
    (Builtin.clear_ #[24] ty #[.slice (some ⟨g, 0, none⟩) n cap]).run Tryz.prog w = .ok (.tuple #[]) (w.setCells g 0 (List.replicate n (.int .i64 0))) :=
  Lib.run_clear_slice w 24 3 ty (.int .i64 0) Tryz.underlying24 zero_int rfl rfl g 0 n cap h0 (fun j hj => by rw [Nat.zero_add, h.cell (by omega)]; rfl) (fun j hj => by rw [Nat.zero_add]; exact h.free hn j)
/-- Sums and ends, just made. -/
def TwoR (u wc : World) (n : Nat) (ps ws : List Int) (v8 v9 : Value) : Prop :=
  KeepR u wc ∧ ∃ (a8 : Option Addr) (c8 : Nat) (a9 : Option Addr) (c9 : Nat), v8 = .slice a8 n c8 ∧ v9 = .slice a9 n c9 ∧ Ints wc a8 n (sums ps ws) ∧ Bo.Ints wc a9 n (endsB ps)
theorem two_mk {u wc : World} {n : Nat} {ps ws : List Int} {v8 v9 : Value} {b8 b9 : Nat} (hk : KeepR u wc) (hs : (sums ps ws).length = n) (he : (endsB ps).length = n) (h8 : Own wc b8 v8 (sums ps ws)) (h9 : Bo.Own wc b9 v9 (endsB ps)) : TwoR u wc n ps ws v8 v9 := by
  obtain ⟨a8, c8, rfl⟩ := h8.shape
  obtain ⟨a9, c9, rfl⟩ := h9.shape
  rw [hs] at h8 ⊢
  rw [he] at h9 ⊢
  exact ⟨hk, a8, c8, a9, c9, rfl, rfl, h8.ints, h9.bools⟩
/-- Two slices of zeros, just made. -/
def TwoZ (u wc : World) (n : Nat) (v10 v11 : Value) : Prop :=
  KeepR u wc ∧ ∃ g10 g11 : Nat, v10 = .slice (some ⟨g10, 0, none⟩) n n ∧ v11 = .slice (some ⟨g11, 0, none⟩) n n ∧ g10 ≠ g11 ∧ Own wc u.heap.size v10 (List.replicate n 0) ∧ Own wc u.heap.size v11 (List.replicate n 0)
theorem two_zeros (u : World) (n : Nat) (hn : n ≤ maxLen) : Own ((u.alloc (.cells (zv n) 3)).alloc (.cells (zv n) 3)) u.heap.size (.slice (some ⟨u.heap.size, 0, none⟩) n n) (List.replicate n 0) ∧
    Own ((u.alloc (.cells (zv n) 3)).alloc (.cells (zv n) 3)) u.heap.size (.slice (some ⟨u.heap.size + 1, 0, none⟩) n n) (List.replicate n 0) := by
  have h1 := (Own.zeros u u.heap.size n (Nat.le_refl _) hn).below (below_new (u.alloc (.cells (zv n) 3)) (.cells (zv n) 3))
  have h2 := Own.zeros (u.alloc (.cells (zv n) 3)) (u.heap.size + 1) n (by simp) hn
  rw [show (u.alloc (.cells (zv n) 3)).heap.size = u.heap.size + 1 by simp] at h2
  exact ⟨h1, h2.mono (by omega)⟩
end Go.Proofs.YtnbomleieianoaaGreat

/- Contract: the envelope of each node times its sum, by the reference. -/
namespace Go.Proofs.YtnbomleieianoaaGreat
open Go.RowKit

theorem KeepR.set {u w : World} {b i : Nat} (h : KeepR u w) (hg : u.heap.size ≤ b) (v : Value) : KeepR u (w.setCell ⟨b, i, none⟩ v) := Below.setCell h hg v
/-- Zeros and sums, just made, apart from each other. -/
def ZeroS (u wc : World) (n : Nat) (ps ws : List Int) (v5 v6 : Value) : Prop :=
  KeepR u wc ∧ ∃ (g5 : Nat) (a6 : Option Addr) (c6 : Nat), v5 = .slice (some ⟨g5, 0, none⟩) n n ∧ v6 = .slice a6 n c6 ∧ Own wc u.heap.size v5 (List.replicate n 0) ∧ Ints wc a6 n (sums ps ws) ∧ ∀ p, a6 = some p → p.block ≠ g5
theorem zeroS_mk {u wc : World} {n : Nat} {ps ws : List Int} {v6 : Value} {b5 b6 g5 : Nat} (hk : KeepR u wc) (hs : (sums ps ws).length = n) (h5 : Own wc b5 (.slice (some ⟨g5, 0, none⟩) n n) (List.replicate n 0)) (h6 : Own wc b6 v6 (sums ps ws)) (hb : u.heap.size ≤ b5) (hne : ∀ g, v6.ownBlock = some g → g ≠ g5) :
    ZeroS u wc n ps ws (.slice (some ⟨g5, 0, none⟩) n n) v6 := by
  obtain ⟨a6, c6, rfl⟩ := h6.shape
  rw [hs] at h6 hne ⊢
  exact ⟨hk, g5, a6, c6, rfl, rfl, h5.mono hb, h6.ints, fun p hp => by subst hp; exact hne _ rfl⟩
/-- The numbers from k on, zeros ahead of them. -/
def tailZ (xs : List Int) (k : Nat) : List Int := (List.range xs.length).map fun y => if k ≤ y then nth xs y else 0
theorem tailZ_length (xs : List Int) (k : Nat) : (tailZ xs k).length = xs.length := by simp [tailZ]
theorem tailZ_all (xs : List Int) : tailZ xs 0 = xs := ext_nth (tailZ_length _ _) fun i hi => by
  rw [tailZ_length] at hi
  rw [tailZ, nth_map_range hi, if_pos (Nat.zero_le _)]
theorem tailZ_none (xs : List Int) : tailZ xs xs.length = List.replicate xs.length 0 := ext_nth (by rw [tailZ_length]; simp) fun i hi => by
  rw [tailZ_length] at hi
  rw [tailZ, nth_map_range hi, if_neg (by omega), nth_replicate]
theorem tailZ_succ {xs : List Int} {k : Nat} (h : k < xs.length) : tailZ xs k = (tailZ xs (k + 1)).set k (nth xs k) := ext_nth (by simp [tailZ]) fun i hi => by
  rw [tailZ_length] at hi
  rw [nth_set (by rw [tailZ_length]; exact h), tailZ, tailZ, nth_map_range hi, nth_map_range hi]
  by_cases e : k = i
  · subst e; rw [if_pos (Nat.le_refl _), if_pos rfl]
  · rw [if_neg e]
    by_cases e2 : k ≤ i
    · rw [if_pos e2, if_pos (by omega)]
    · rw [if_neg e2, if_neg (by omega)]
theorem nth_tailZ {xs : List Int} {k y : Nat} (h : y < xs.length) (hk : k ≤ y) : nth (tailZ xs k) y = nth xs y := by rw [tailZ, nth_map_range h, if_pos hk]
theorem tailZ_abs {xs : List Int} {B : Int} (hB : 0 ≤ B) (h : Abs2 B xs) (k : Nat) : Abs2 B (tailZ xs k) := fun i => by
  by_cases hi : i < xs.length
  · rw [tailZ, nth_map_range hi]
    split
    · exact h i
    · omega
  · rw [nth_ge (by rw [tailZ_length]; omega)]; omega
theorem set_abs {xs : List Int} {B v : Int} {k : Nat} (_hB : 0 ≤ B) (h : Abs2 B xs) (hk : k < xs.length) (hv : -B ≤ v ∧ v ≤ B) : Abs2 B (xs.set k v) := fun i => by
  rw [nth_set hk]
  split
  · exact hv
  · exact h i
end Go.Proofs.YtnbomleieianoaaGreat

/- Contracts: the least caps, of the program and of the reference. -/
namespace Go.Proofs.YtnbomleieianoaaGreat
open Go.RowKit

def lcV (ps ws l : List Int) : List Int := if paysB ps ws l then capW ps ws l else []
theorem lcV_no {ps ws l : List Int} (h : paysB ps ws l = false) : lcV ps ws l = [] := by rw [lcV, h]; rfl
theorem lcV_yes {ps ws l : List Int} (h : paysB ps ws l = true) : lcV ps ws l = capW ps ws l := by rw [lcV, h]; rfl
theorem lcV_len {ps ws l : List Int} : (lcV ps ws l).length ≤ 1048576 := by
  cases h : paysB ps ws l
  · rw [lcV_no h]; simp
  · rw [lcV_yes h, capW_length]; have := (paysB_t h).1.n24; omega
end Go.Proofs.YtnbomleieianoaaGreat

/- Contracts: the best rules, by the program. -/
namespace Go.Proofs.YtnbomleieianoaaGreat
open Go.RowKit

/-- Does the earliest best rule stop at x? -/
def bestB (ps ws l : List Int) (x : Nat) : Bool := ownW ps ws l x == nth (capW ps ws l) x
def bestV (ps ws l : List Int) : List Int := if paysB ps ws l then firsts ps (fS (bestB ps ws l)) else []
theorem bestV_no {ps ws l : List Int} (h : paysB ps ws l = false) : bestV ps ws l = [] := by rw [bestV, h]; rfl
theorem bestV_yes {ps ws l : List Int} (h : paysB ps ws l = true) : bestV ps ws l = firsts ps (fS (bestB ps ws l)) := by rw [bestV, h]; rfl
theorem bestV_len {ps ws l : List Int} : (bestV ps ws l).length ≤ 1048576 := by
  cases h : paysB ps ws l
  · rw [bestV_no h]; simp
  · rw [bestV_yes h]; have := (paysB_t h).1.n24; have := firsts_length ps (fS (bestB ps ws l)); omega
theorem cf_BestRule (args : Array Value) (W : World) : (callFunc 102 args).run Tryz.prog W = .ok (.enter 102 args) W := by kernel_rfl
set_option maxRecDepth 100000 in
theorem cl_BestRule (x n : Nat) (pS pL pA : Addr) (aS aL aA : Option Addr) (cS cL cA : Nat) (s l at' : List Int) (w : World) (hx : x < n)
    (h1 : w.cell? pS = some (.slice aS n cS)) (h2 : w.cell? pL = some (.slice aL n cL)) (h3 : w.cell? pA = some (.slice aA n cA)) (hS : Ints w aS n s) (hL : Ints w aL n l) (hA : Ints w aA n at') (hsb : 0 ≤ nth s x ∧ nth s x ≤ 480) (hlb : -999 ≤ nth l x ∧ nth l x ≤ 999) :
    Calls Tryz.prog 102 #[.int .i64 (x : Int), .pointer (some pS), .pointer (some pL), .pointer (some pA)] w fun e w' => e = .returned (.bool (nth s x * nth l x == nth at' x)) ∧ Below w.heap.size w w' := by
  obtain ⟨bS, oS, rfl, hcS⟩ := hS.at (i := x) (Below.refl _ _) hx
  obtain ⟨bL, oL, rfl, hcL⟩ := hL.at (i := x) (Below.refl _ _) hx
  obtain ⟨bA, oA, rfl, hcA⟩ := hA.at (i := x) (Below.refl _ _) hx
  have hmb := mul_abs (B := 999) (U := 480) hlb hsb (by omega)
  rw [Int.mul_comm (nth l x) (nth s x)] at hmb
  clear hS hL hA
  generalize nth s x = u at *
  generalize nth l x = q at *
  generalize nth at' x = r at *
  have k1 : IntKind.i64.wrap (u * q) = u * q := IntWalk.i64_in _ (by omega)
  have k2 : (0 : Int) ≤ (x : Int) := by omega
  have k3 : (x : Int) < (n : Int) := by omega
  go_enter Tryz.func102, Tryz.ntmps102
  go_wp2_with fail
  go_quiet (fail)
  go_wp2_with fail
  go_ret
  exact ⟨rfl, below_drewN (Below.refl _ _) _⟩
end Go.Proofs.YtnbomleieianoaaGreat

/- Contracts: the latest best rule, by the program. -/
namespace Go.Proofs.YtnbomleieianoaaGreat
open Go.RowKit

/-- Does the latest best rule stop at x? -/
def lateB (ps ws l : List Int) (x : Nat) : Bool := endB ps x || decide (ownW ps ws l x > kidSum ps (fun y => nth (capW ps ws l) y) x ps.length)
def lateV (ps ws l : List Int) : List Int := if paysB ps ws l then firsts ps (fS (lateB ps ws l)) else []
theorem lateV_no {ps ws l : List Int} (h : paysB ps ws l = false) : lateV ps ws l = [] := by rw [lateV, h]; rfl
theorem lateV_yes {ps ws l : List Int} (h : paysB ps ws l = true) : lateV ps ws l = firsts ps (fS (lateB ps ws l)) := by rw [lateV, h]; rfl
theorem lateV_len {ps ws l : List Int} : (lateV ps ws l).length ≤ 1048576 := by
  cases h : paysB ps ws l
  · rw [lateV_no h]; simp
  · rw [lateV_yes h]; have := (paysB_t h).1.n24; have := firsts_length ps (fS (lateB ps ws l)); omega
/-- One cell of a block, that may be written. -/
structure Cel (w : World) (g : Nat) (x : Value) : Prop where
  c : w.cell? ⟨g, 0, none⟩ = some x
  f : w.frozen? ⟨g, 0, none⟩ = false
theorem Cel.lt {w : World} {g : Nat} {x : Value} (h : Cel w g x) : g < w.heap.size := World.block_lt_of_cell? w _ h.c
theorem Cel.below {w w' : World} {g : Nat} {x : Value} (h : Cel w g x) (hb : Below w.heap.size w w') : Cel w' g x := ⟨(hb.cell (p := ⟨g, 0, none⟩) h.lt).trans h.c, (hb.frozen (p := ⟨g, 0, none⟩) h.lt).trans h.f⟩
theorem Cel.new (w : World) (x : Value) (t : TypeId) : Cel (w.alloc (.cells #[x] t)) w.heap.size x := ⟨by rw [World.cell?_alloc_at _ _ _ _ rfl]; rfl, World.frozen?_alloc_at _ _ _ _ rfl⟩
theorem Cel.drew {w : World} {g : Nat} {x : Value} (h : Cel w g x) : Cel w.drew g x := ⟨h.c, h.f⟩
theorem Cel.put {w : World} {g : Nat} {x : Value} (h : Cel w g x) (u : Value) : Cel (w.setCell ⟨g, 0, none⟩ u) g u := ⟨cell_set h.c, by simpa using h.f⟩
theorem Cel.far {w : World} {g b : Nat} {x : Value} (h : Cel w g x) (hne : g ≠ b) (u : Value) : Cel (w.setCell ⟨b, 0, none⟩ u) g x := ⟨cell_far h.c hne, by simpa using h.f⟩
/-- Two boxes with the sums and the ends, just made. -/
def LateR (u wc : World) (n : Nat) (ps ws : List Int) (v8 v9 : Value) : Prop :=
  Below u.heap.size u wc ∧ ∃ (g8 g9 : Nat) (a6 : Option Addr) (c6 : Nat) (a7 : Option Addr) (c7 : Nat), v8 = .pointer (some ⟨g8, 0, none⟩) ∧ v9 = .pointer (some ⟨g9, 0, none⟩) ∧ wc.cell? ⟨g8, 0, none⟩ = some (.slice a6 n c6) ∧ wc.cell? ⟨g9, 0, none⟩ = some (.slice a7 n c7) ∧ Ints wc a6 n (sums ps ws) ∧ Bo.Ints wc a7 n (endsB ps)
theorem lateR_mk {u W : World} {n : Nat} {ps ws : List Int} {g8 g9 c6 c7 b6 b7 : Nat} {a6 a7 : Option Addr} {x y : Value} (hB : Below u.heap.size u W) (fs8 : Cel W g8 x) (fs9 : Cel W g9 y) (hne : g8 ≠ g9) (o6 : Own W b6 (.slice a6 n c6) (sums ps ws)) (o7 : Bo.Own W b7 (.slice a7 n c7) (endsB ps))
    (s6 : ∀ g, (Value.slice a6 n c6).ownBlock = some g → g ≠ g8 ∧ g ≠ g9) (s7 : ∀ g, (Value.slice a7 n c7).ownBlock = some g → g ≠ g8 ∧ g ≠ g9) (h8 : u.heap.size ≤ g8) (h9 : u.heap.size ≤ g9) :
    LateR u ((W.setCell ⟨g8, 0, none⟩ (.slice a6 n c6)).setCell ⟨g9, 0, none⟩ (.slice a7 n c7)) n ps ws (.pointer (some ⟨g8, 0, none⟩)) (.pointer (some ⟨g9, 0, none⟩)) := by
  refine ⟨(hB.setCell h8 _).setCell h9 _, g8, g9, a6, c6, a7, c7, rfl, rfl, ((fs8.put _).far hne _).c, ((fs9.far (fun e => hne e.symm) _).put _).c, ?_, ?_⟩
  · have o6' := (o6.far (a := ⟨g8, 0, none⟩) (fun e => (s6 _ e).1 rfl) (.slice a6 n c6)).far (a := ⟨g9, 0, none⟩) (fun e => (s6 _ e).2 rfl) (.slice a7 n c7)
    exact o6'.ints
  · have o7' := (o7.far (a := ⟨g8, 0, none⟩) (fun e => (s7 _ e).1 rfl) (.slice a6 n c6)).far (a := ⟨g9, 0, none⟩) (fun e => (s7 _ e).2 rfl) (.slice a7 n c7)
    exact o7'.bools
theorem cne {w : World} {g8 g9 : Nat} {x y : Value} (_ : Cel w g8 x) (_ : Cel w g9 y) (h : g8 ≠ g9) : g8 ≠ g9 := h
theorem cf_LatestRule (args : Array Value) (W : World) : (callFunc 105 args).run Tryz.prog W = .ok (.enter 105 args) W := by kernel_rfl
end Go.Proofs.YtnbomleieianoaaGreat

/- Contracts: the envelope of each node, by the program and by the reference. -/
namespace Go.Proofs.YtnbomleieianoaaGreat
open Go.RowKit

/-- The envelopes. -/
def envL (ps ws l : List Int) : List (Int × Int) := (List.range ps.length).map fun x => (nm (nth (capW ps ws l) x) (nth (sums ps ws) x), dn (nth (capW ps ws l) x) (nth (sums ps ws) x))
theorem envL_length (ps ws l : List Int) : (envL ps ws l).length = ps.length := by simp [envL]
theorem envL_take (ps ws l : List Int) {x : Nat} (hx : x < ps.length) : (envL ps ws l).take (x + 1) = (envL ps ws l).take x ++ [(nm (nth (capW ps ws l) x) (nth (sums ps ws) x), dn (nth (capW ps ws l) x) (nth (sums ps ws) x))] := by
  rw [List.take_succ_eq_append_getElem (by rw [envL_length]; exact hx)]
  simp [envL]
def envV (ps ws l : List Int) : List (Int × Int) := if paysB ps ws l then envL ps ws l else []
theorem envV_no {ps ws l : List Int} (h : paysB ps ws l = false) : envV ps ws l = [] := by rw [envV, h]; rfl
theorem envV_yes {ps ws l : List Int} (h : paysB ps ws l = true) : envV ps ws l = envL ps ws l := by rw [envV, h]; rfl
theorem envV_len {ps ws l : List Int} : (envV ps ws l).length ≤ 24 := by
  cases h : paysB ps ws l
  · rw [envV_no h]; simp
  · rw [envV_yes h, envL_length]; exact (paysB_t h).1.n24
end Go.Proofs.YtnbomleieianoaaGreat
