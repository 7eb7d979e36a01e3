/- Contracts of the laws' helpers on markets whose lists lie in whatever order: marking them, and asking whether the marks are held. -/
import Derived.Test.YtcoakeedgngogaaRm0
namespace Go.Proofs.Ytcoakeedgngogaa
open Go.RowKit

theorem ne_or {u v : Value} (h : ∀ q, u.ownBlock = some q → v.ownBlock ≠ some q) : u.ownBlock = none ∨ u.ownBlock ≠ v.ownBlock := by
  cases hb : u.ownBlock with
  | none => exact .inl rfl
  | some q => exact .inr fun e => h q hb e.symm
set_option maxHeartbeats 1000000 in
theorem laws_markTreeR (base : Nat) (aP : Option Addr) (nP cP : Nat) (aW : Option Addr) (nW cW : Nat) (ps ws : List Int) (k : Int) (w : World) (hbw : base ≤ w.heap.size) (hpn : nP ≤ 1048576) (hwn : nW ≤ 1048576) (hk0 : 0 ≤ k) (hk1 : k ≤ 100000000000) (hp : Own w base (.slice aP nP cP) ps) (hw : Own w base (.slice aW nW cW) ws) (hpw : ∀ q, (Value.slice aP nP cP).ownBlock = some q → (Value.slice aW nW cW).ownBlock ≠ some q) :
    Calls Try.prog 50 #[.agg #[.slice aP nP cP, .slice aW nW cW], .int .i64 k] w fun e w' => e = .returned (.int .i64 (k + nP + nW)) ∧ (Own w' base (.slice aP nP cP) (marks k nP) ∧ Own w' base (.slice aW nW cW) (marks (k + nP) nW)) ∧ Below base w w' ∧ (∀ B' v xs, Own w B' v xs → (∀ q, v.ownBlock = some q → (Value.slice aP nP cP).ownBlock ≠ some q) → (∀ q, v.ownBlock = some q → (Value.slice aW nW cW).ownBlock ≠ some q) → Own w' B' v xs) ∧ ∀ g, g < w.heap.size → (Value.slice aP nP cP).ownBlock ≠ some g → (Value.slice aW nW cW).ownBlock ≠ some g → w'.heap[g]? = w.heap[g]? := by
  have hb1 := below_new w (.cells #[.slice aP nP cP, .slice aW nW cW] 33)
  have hP1 := Lib.hid (Pair.new w (.slice aP nP cP) (.slice aW nW cW) 33)
  have HpL := Lib.hid (fun g hg => (World.ownsRow.lt hp g hg))
  have HwL := Lib.hid (fun g hg => (World.ownsRow.lt hw g hg))
  have Hp := Lib.hid (hp.below hb1)
  have Hw := Lib.hid (hw.below hb1)
  have Hpw := Lib.hid hpw
  clear hp hw hpw
  go_enter Try.func50, Try.ntmps50
  have c0 := hP1.out.c0
  have c1 := hP1.out.c1
  go_wp2_with fail
  have hs2 : w.heap.size < (w.alloc (.cells #[.slice aP nP cP, .slice aW nW cW] 33)).heap.size := by simp
  generalize (w.alloc (.cells #[.slice aP nP cP, .slice aW nW cW] 33)) = w2 at *
  refine (laws_markIntS base aP nP cP k ps _ (by omega) hk0 (by omega) Hp.out).mono ?_
  rintro e w3 ⟨rfl, o3, g3⟩
  have o4 : Own w3 base (.slice aW nW cW) ws := Hw.out.grown g3 (ne_or (ne_swap Hpw.out))
  have hne : (Value.slice aP nP cP).ownBlock ≠ some w.heap.size := fun e => by have := (HpL.out _ e).2; omega
  have d1 : w3.cell? ⟨w.heap.size, 1, none⟩ = some (.slice aW nW cW) := g3.cell (a := ⟨w.heap.size, 1, none⟩) c1 (fun e => hne e.symm)
  have b3 : Below base w w3 := (hb1.mono hbw).grown g3 (by omega) (fun q hq => (HpL.out q hq).1)
  have O3 := Lib.hid o3
  have O4 := Lib.hid o4
  have G3 := Lib.hid g3
  have B3 := Lib.hid b3
  clear o3 o4 g3 c0 c1 hne b3
  go_wp2_with fail
  refine (laws_markIntS base aW nW cW (k + nP) ws _ (by omega) (by omega) (by omega) O4.out).mono ?_
  rintro e w4 ⟨rfl, o5, g5⟩
  have O6 := Lib.hid (O3.out.grown g5 (ne_or Hpw.out))
  have O5 := Lib.hid o5
  have B5 := Lib.hid (B3.out.grown g5 (by have := B3.out.size; omega) (fun q hq => (HwL.out q hq).1))
  have G5 := Lib.hid g5
  clear o5 g5
  go_wp2_with fail
  go_ret
  refine ⟨rfl, ⟨O6.out, O5.out⟩, B5.out, fun B' v xs hv h1 h2 => ((hv.below hb1).grown G3.out (ne_or h1)).grown G5.out (ne_or h2), fun g hg h1 h2 => ?_⟩
  have e1 := G5.out.block g (by have := G3.out.size; omega) (fun e => h2 e.symm)
  have e2 := G3.out.block g (by omega) (fun e => h1 e.symm)
  rw [e1, e2]
  exact hb1.block g hg
set_option maxRecDepth 100000 in
set_option maxHeartbeats 1000000 in
theorem laws_markMarketR (base : Nat) (aP : Option Addr) (nP cP : Nat) (aW : Option Addr) (nW cW : Nat) (aL : Option Addr) (nL cL : Nat) (ps ws l : List Int) (k : Int) (w : World) (hbw : base ≤ w.heap.size) (hpn : nP ≤ 1048576) (hwn : nW ≤ 1048576) (hln : nL ≤ 1048576) (hk0 : 0 ≤ k) (hk1 : k ≤ 10000000000) (h : Tri w base (.slice aP nP cP) (.slice aW nW cW) (.slice aL nL cL) ps ws l) :
    Calls Try.prog 17 #[.agg #[.slice aP nP cP, .slice aW nW cW, .slice aL nL cL], .int .i64 k] w fun e w' => e = .returned (.int .i64 (k + nP + nW + nL)) ∧ Tri w' base (.slice aP nP cP) (.slice aW nW cW) (.slice aL nL cL) (marks k nP) (marks (k + nP) nW) (marks (k + nP + nW) nL) ∧ Below base w w' ∧ ∀ g, g < w.heap.size → (Value.slice aP nP cP).ownBlock ≠ some g → (Value.slice aW nW cW).ownBlock ≠ some g → (Value.slice aL nL cL).ownBlock ≠ some g → w'.heap[g]? = w.heap[g]? := by
  have hb1 := below_new w (.cells #[.slice aP nP cP, .slice aW nW cW, .slice aL nL cL] 35)
  have hP1 := Lib.hid (Trip.new w (.slice aP nP cP) (.slice aW nW cW) (.slice aL nL cL) 35)
  have HT := Lib.hid (h.below hb1)
  have HpL := Lib.hid (fun g hg => (World.ownsRow.lt h.p g hg))
  have HwL := Lib.hid (fun g hg => (World.ownsRow.lt h.q g hg))
  have HlL := Lib.hid (fun g hg => (World.ownsRow.lt h.l g hg))
  clear h
  go_enter Try.func17, Try.ntmps17
  have c0 := hP1.out.c0
  have c1 := hP1.out.c1
  have c2 := hP1.out.c2
  go_wp2_with fail
  have hs2 : w.heap.size < (w.alloc (.cells #[.slice aP nP cP, .slice aW nW cW, .slice aL nL cL] 35)).heap.size := by simp
  generalize (w.alloc (.cells #[.slice aP nP cP, .slice aW nW cW, .slice aL nL cL] 35)) = w2 at *
  refine (laws_markTreeR base _ _ _ _ _ _ ps ws k _ (by omega) hpn hwn hk0 (by omega) HT.out.p HT.out.q HT.out.pq).mono ?_
  rintro e w3 ⟨rfl, ⟨o3, o4⟩, b3, hk3, hc3⟩
  have d2 : w3.cell? ⟨w.heap.size, 2, none⟩ = some (.slice aL nL cL) := (World.cell?_of_block (a := ⟨w.heap.size, 2, none⟩) (hc3 w.heap.size hs2 (fun e => by have := (HpL.out _ e).2; omega) (fun e => by have := (HwL.out _ e).2; omega))).trans c2
  have O3 := Lib.hid o3
  have O4 := Lib.hid o4
  have OL := Lib.hid (hk3 _ _ _ HT.out.l (ne_swap HT.out.pl) (ne_swap HT.out.ql))
  have B3 := Lib.hid ((hb1.mono hbw).trans b3)
  have Hc3 := Lib.hid hc3
  have hs3 := b3.size
  clear o3 o4 b3 hk3 hc3 c0 c1 c2
  go_wp2_with fail
  refine (laws_markIntS base aL nL cL (k + nP + nW) l _ (by omega) (by omega) (by omega) OL.out).mono ?_
  rintro e w4 ⟨rfl, o5, g5⟩
  have O6 := Lib.hid (O3.out.grown g5 (ne_or HT.out.pl))
  have O7 := Lib.hid (O4.out.grown g5 (ne_or HT.out.ql))
  have O5 := Lib.hid o5
  have B5 := Lib.hid (B3.out.grown g5 (by have := B3.out.size; omega) (fun q hq => (HlL.out q hq).1))
  have G5 := Lib.hid g5
  clear o5 g5
  go_wp2_with fail
  go_ret
  refine ⟨rfl, ⟨O6.out, O7.out, O5.out, HT.out.pq, HT.out.pl, HT.out.ql⟩, B5.out, fun g hg h1 h2 h3 => ?_⟩
  have e1 := G5.out.block g (by omega) (fun e => h3 e.symm)
  have e2 := Hc3.out g (by omega) h1 h2
  rw [e1, e2]
  exact hb1.block g hg
set_option maxHeartbeats 1000000 in
theorem laws_heldTreeR (aP : Option Addr) (nP cP : Nat) (aW : Option Addr) (nW cW : Nat) (k : Int) (w : World) (hpn : nP ≤ 1048576) (hwn : nW ≤ 1048576) (hk0 : 0 ≤ k) (hk1 : k ≤ 100000000000) (hp : Ints w aP nP (marks k nP)) (hw : Ints w aW nW (marks (k + nP) nW)) :
    Calls Try.prog 51 #[.agg #[.slice aP nP cP, .slice aW nW cW], .int .i64 k] w fun e w' => e = .returned (.int .i64 (k + nP + nW)) ∧ Below w.heap.size w w' := by
  have hb1 := below_new w (.cells #[.slice aP nP cP, .slice aW nW cW] 33)
  have hP1 := Lib.hid (Pair.new w (.slice aP nP cP) (.slice aW nW cW) 33)
  have Hp := Lib.hid (hp.below hb1)
  have Hw := Lib.hid (hw.below hb1)
  clear hp hw
  go_enter Try.func51, Try.ntmps51
  have c0 := hP1.out.c0
  have c1 := hP1.out.c1
  have k1 : ¬ k + nP < 0 := by omega
  have k2 : ¬ k + nP + nW < 0 := by omega
  go_wp2_with fail
  generalize (w.alloc (.cells #[.slice aP nP cP, .slice aW nW cW] 33)) = w2 at *
  refine (laws_heldIntS aP nP cP k _ (by omega) hk0 (by omega) Hp.out).mono ?_
  rintro e w3 ⟨rfl, rfl⟩
  go_wp2_with fail
  refine (laws_heldIntS aW nW cW (k + nP) _ (by omega) (by omega) (by omega) Hw.out).mono ?_
  rintro e w3 ⟨rfl, rfl⟩
  go_wp2_with fail
  go_ret
  exact ⟨rfl, hb1⟩
set_option maxHeartbeats 1000000 in
theorem laws_heldMarketR (aP : Option Addr) (nP cP : Nat) (aW : Option Addr) (nW cW : Nat) (aL : Option Addr) (nL cL : Nat) (k : Int) (w : World) (hpn : nP ≤ 1048576) (hwn : nW ≤ 1048576) (hln : nL ≤ 1048576) (hk0 : 0 ≤ k) (hk1 : k ≤ 10000000000) (hp : Ints w aP nP (marks k nP)) (hw : Ints w aW nW (marks (k + nP) nW)) (hl : Ints w aL nL (marks (k + nP + nW) nL)) :
    Calls Try.prog 18 #[.agg #[.slice aP nP cP, .slice aW nW cW, .slice aL nL cL], .int .i64 k] w fun e w' => e = .returned (.int .i64 (k + nP + nW + nL)) ∧ Below w.heap.size w w' := by
  have hb1 := below_new w (.cells #[.slice aP nP cP, .slice aW nW cW, .slice aL nL cL] 35)
  have hP1 := Lib.hid (Trip.new w (.slice aP nP cP) (.slice aW nW cW) (.slice aL nL cL) 35)
  have Hp := Lib.hid (hp.below hb1)
  have Hw := Lib.hid (hw.below hb1)
  have Hl := Lib.hid (hl.below hb1)
  clear hp hw hl
  go_enter Try.func18, Try.ntmps18
  have c0 := hP1.out.c0
  have c1 := hP1.out.c1
  have k1 : ¬ k + nP + nW < 0 := by omega
  have k2 : ¬ k + nP + nW + nL < 0 := by omega
  go_wp2_with fail
  generalize (w.alloc (.cells #[.slice aP nP cP, .slice aW nW cW, .slice aL nL cL] 35)) = w2 at *
  refine (laws_heldTreeR aP nP cP aW nW cW k _ hpn hwn hk0 (by omega) Hp.out Hw.out).mono ?_
  rintro e w3 ⟨rfl, b3⟩
  have d2 := (hP1.out.below b3).c2
  have Hl3 := Lib.hid (Hl.out.below b3)
  have hb3 := hb1.trans (b3.mono hb1.size)
  clear c0 c1 b3
  go_wp2_with fail
  refine (laws_heldIntS aL nL cL (k + nP + nW) _ (by omega) (by omega) (by omega) Hl3.out).mono ?_
  rintro e w4 ⟨rfl, rfl⟩
  go_wp2_with fail
  go_ret
  exact ⟨rfl, hb3⟩
end Go.Proofs.Ytcoakeedgngogaa
