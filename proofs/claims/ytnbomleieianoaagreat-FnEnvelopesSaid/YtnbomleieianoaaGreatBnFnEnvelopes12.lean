/- Contracts and plain laws for the statement FnEnvelopes, part 12. No conditions but those stated in each. -/
import Derived.Test.YtnbomleieianoaaGreatBnFnEnvelopes11
import Derived.Deep.DeepCutAuto
import Derived.Deep.Cut
import Derived.Test.YtnbomleieianoaaGreatBnFnEnvelopes6
import Derived.Test.YtnbomleieianoaaGreatBnFnEnvelopes10
import Derived.Test.YtnbomleieianoaaGreatBnFnEnvelopes4
import Derived.Test.YtnbomleieianoaaGreatBnFnEnvelopes5
/- Contracts: the latest best rule, by the program. -/
namespace Go.Proofs.YtnbomleieianoaaGreat
open Go.RowKit

/-- Does the latest best rule stop at x? -/
def lateB (ps ws l : List Int) (x : Nat) : Bool := endB ps x || decide (ownW ps ws l x > kidSum ps (fun y => nth (capW ps ws l) y) x ps.length)
def lateV (ps ws l : List Int) : List Int := if paysB ps ws l then firsts ps (fS (lateB ps ws l)) else []
theorem lateV_no {ps ws l : List Int} (h : paysB ps ws l = false) : lateV ps ws l = [] := by rw [lateV, h]; rfl
theorem lateV_yes {ps ws l : List Int} (h : paysB ps ws l = true) : lateV ps ws l = firsts ps (fS (lateB ps ws l)) := by rw [lateV, h]; rfl
theorem lateV_len {ps ws l : List Int} : (lateV ps ws l).length ≤ 1048576 := by
  cases h : paysB ps ws l
  · rw [lateV_no h]; simp
  · rw [lateV_yes h]; have := (paysB_t h).1.n24; have := firsts_length ps (fS (lateB ps ws l)); omega
/-- One cell of a block, that may be written. -/
structure Cel (w : World) (g : Nat) (x : Value) : Prop where
  c : w.cell? ⟨g, 0, none⟩ = some x
  f : w.frozen? ⟨g, 0, none⟩ = false
theorem Cel.lt {w : World} {g : Nat} {x : Value} (h : Cel w g x) : g < w.heap.size := World.block_lt_of_cell? w _ h.c
theorem Cel.below {w w' : World} {g : Nat} {x : Value} (h : Cel w g x) (hb : Below w.heap.size w w') : Cel w' g x := ⟨(hb.cell (p := ⟨g, 0, none⟩) h.lt).trans h.c, (hb.frozen (p := ⟨g, 0, none⟩) h.lt).trans h.f⟩
theorem Cel.new (w : World) (x : Value) (t : TypeId) : Cel (w.alloc (.cells #[x] t)) w.heap.size x := ⟨by rw [World.cell?_alloc_at _ _ _ _ rfl]; rfl, World.frozen?_alloc_at _ _ _ _ rfl⟩
theorem Cel.drew {w : World} {g : Nat} {x : Value} (h : Cel w g x) : Cel w.drew g x := ⟨h.c, h.f⟩
theorem Cel.put {w : World} {g : Nat} {x : Value} (h : Cel w g x) (u : Value) : Cel (w.setCell ⟨g, 0, none⟩ u) g u := ⟨cell_set h.c, by simpa using h.f⟩
theorem Cel.far {w : World} {g b : Nat} {x : Value} (h : Cel w g x) (hne : g ≠ b) (u : Value) : Cel (w.setCell ⟨b, 0, none⟩ u) g x := ⟨cell_far h.c hne, by simpa using h.f⟩
/-- Two boxes with the sums and the ends, just made. -/
def LateR (u wc : World) (n : Nat) (ps ws : List Int) (v8 v9 : Value) : Prop :=
  Below u.heap.size u wc ∧ ∃ (g8 g9 : Nat) (a6 : Option Addr) (c6 : Nat) (a7 : Option Addr) (c7 : Nat), v8 = .pointer (some ⟨g8, 0, none⟩) ∧ v9 = .pointer (some ⟨g9, 0, none⟩) ∧ wc.cell? ⟨g8, 0, none⟩ = some (.slice a6 n c6) ∧ wc.cell? ⟨g9, 0, none⟩ = some (.slice a7 n c7) ∧ Ints wc a6 n (sums ps ws) ∧ Bo.Ints wc a7 n (endsB ps)
theorem lateR_mk {u W : World} {n : Nat} {ps ws : List Int} {g8 g9 c6 c7 b6 b7 : Nat} {a6 a7 : Option Addr} {x y : Value} (hB : Below u.heap.size u W) (fs8 : Cel W g8 x) (fs9 : Cel W g9 y) (hne : g8 ≠ g9) (o6 : Own W b6 (.slice a6 n c6) (sums ps ws)) (o7 : Bo.Own W b7 (.slice a7 n c7) (endsB ps))
    (s6 : ∀ g, (Value.slice a6 n c6).ownBlock = some g → g ≠ g8 ∧ g ≠ g9) (s7 : ∀ g, (Value.slice a7 n c7).ownBlock = some g → g ≠ g8 ∧ g ≠ g9) (h8 : u.heap.size ≤ g8) (h9 : u.heap.size ≤ g9) :
    LateR u ((W.setCell ⟨g8, 0, none⟩ (.slice a6 n c6)).setCell ⟨g9, 0, none⟩ (.slice a7 n c7)) n ps ws (.pointer (some ⟨g8, 0, none⟩)) (.pointer (some ⟨g9, 0, none⟩)) := by
  refine ⟨(hB.setCell h8 _).setCell h9 _, g8, g9, a6, c6, a7, c7, rfl, rfl, ((fs8.put _).far hne _).c, ((fs9.far (fun e => hne e.symm) _).put _).c, ?_, ?_⟩
  · have o6' := (o6.far (a := ⟨g8, 0, none⟩) (fun e => (s6 _ e).1 rfl) (.slice a6 n c6)).far (a := ⟨g9, 0, none⟩) (fun e => (s6 _ e).2 rfl) (.slice a7 n c7)
    exact o6'.ints
  · have o7' := (o7.far (a := ⟨g8, 0, none⟩) (fun e => (s7 _ e).1 rfl) (.slice a6 n c6)).far (a := ⟨g9, 0, none⟩) (fun e => (s7 _ e).2 rfl) (.slice a7 n c7)
    exact o7'.bools
theorem cne {w : World} {g8 g9 : Nat} {x y : Value} (_ : Cel w g8 x) (_ : Cel w g9 y) (h : g8 ≠ g9) : g8 ≠ g9 := h
theorem cf_LatestRule (args : Array Value) (W : World) : (callFunc 105 args).run Tryz.prog W = .ok (.enter 105 args) W := by kernel_rfl
set_option maxRecDepth 100000 in
set_option maxHeartbeats 1000000 in
theorem cl_LatestRule (x n : Nat) (pE pS pL pA : Addr) (aE aS aL aA : Option Addr) (cE cS cL cA : Nat) (es : List Bool) (s l on' : List Int) (w : World) (hx : x < n)
    (h0 : w.cell? pE = some (.slice aE n cE)) (h1 : w.cell? pS = some (.slice aS n cS)) (h2 : w.cell? pL = some (.slice aL n cL)) (h3 : w.cell? pA = some (.slice aA n cA)) (hE : Bo.Ints w aE n es) (hS : Ints w aS n s) (hL : Ints w aL n l) (hA : Ints w aA n on') (hsb : 0 ≤ nth s x ∧ nth s x ≤ 480) (hlb : -999 ≤ nth l x ∧ nth l x ≤ 999) :
    Calls Tryz.prog 105 #[.int .i64 (x : Int), .pointer (some pE), .pointer (some pS), .pointer (some pL), .pointer (some pA)] w fun e w' => e = .returned (.bool (Bo.nth es x || decide (nth s x * nth l x > nth on' x))) ∧ Below w.heap.size w w' := by
  obtain ⟨bE, oE, rfl, hcE⟩ := hE.at (i := x) (Below.refl _ _) hx
  obtain ⟨bS, oS, rfl, hcS⟩ := hS.at (i := x) (Below.refl _ _) hx
  obtain ⟨bL, oL, rfl, hcL⟩ := hL.at (i := x) (Below.refl _ _) hx
  obtain ⟨bA, oA, rfl, hcA⟩ := hA.at (i := x) (Below.refl _ _) hx
  have hmb := mul_abs (B := 999) (U := 480) hlb hsb (by omega)
  rw [Int.mul_comm (nth l x) (nth s x)] at hmb
  clear hS hL hA hE
  generalize nth s x = u at *
  generalize nth l x = q at *
  generalize nth on' x = r at *
  generalize Bo.nth es x = b at *
  have k1 : IntKind.i64.wrap (u * q) = u * q := IntWalk.i64_in _ (by omega)
  have k2 : (0 : Int) ≤ (x : Int) := by omega
  have k3 : (x : Int) < (n : Int) := by omega
  cases b
  · by_cases hgt : u * q > r
    · rw [decide_eq_true hgt]
      go_enter Tryz.func105, Tryz.ntmps105
      go_wp2_with fail
      go_quiet (fail)
      go_wp2_with fail
      go_ret
      exact ⟨rfl, below_drewN (Below.refl _ _) _⟩
    · rw [decide_eq_false hgt]
      go_enter Tryz.func105, Tryz.ntmps105
      go_wp2_with fail
      go_quiet (fail)
      go_wp2_with fail
      go_ret
      exact ⟨by first | rfl | exact rb (decide_eq_false (by omega)), below_drewN (Below.refl _ _) _⟩
  · rw [Bool.true_or]
    go_enter Tryz.func105, Tryz.ntmps105
    go_wp2_with fail
    go_quiet (fail)
    go_wp2_with fail
    go_ret
    exact ⟨rfl, below_drewN (Below.refl _ _) _⟩
set_option maxRecDepth 100000 in
set_option maxHeartbeats 2000000 in
theorem impl_LatestRule (aP : Option Addr) (nP cP : Nat) (aW : Option Addr) (nW cW : Nat) (ps ws : List Int) (aL : Option Addr) (nL cL : Nat) (l : List Int) (w : World) (h : Tre w aP nP cP aW nW cW ps ws) (hL : Ints w aL nL l) (_hLc : aL = none → cL = 0) (hn : nL ≤ 1048576) :
    Calls Tryz.prog 39 #[.agg #[.slice aP nP cP, .slice aW nW cW], .slice aL nL cL] w fun e w' => ∃ v, e = .returned (.tuple #[v, .bool (paysB ps ws l)]) ∧ Own w' w.heap.size v (lateV ps ws l) ∧ Below w.heap.size w w' := by
  have hl := h.p.1
  have hlw := h.w.1
  have hpn := h.pn
  have hwn := h.wn
  have hb1 := below_new w (.cells #[.slice aP nP cP, .slice aW nW cW] 26)
  have hP1 := Lib.hid (Pair.new w (.slice aP nP cP) (.slice aW nW cW) 26)
  have H := Lib.hid h
  have Hl := Lib.hid hl
  have Hlw := Lib.hid hlw
  clear h hl hlw
  have HL := Lib.hid hL
  have hll := Lib.hid hL.1
  clear hL
  have hbb := hb1.trans ((below_new (w.alloc (.cells #[.slice aP nP cP, .slice aW nW cW] 26)) (.cells #[.slice aL nL cL] 24)).mono hb1.size)
  have hPP := Lib.hid (hP1.out.alloc (.cells #[.slice aL nL cL] 24))
  have hC1 : ((w.alloc (.cells #[.slice aP nP cP, .slice aW nW cW] 26)).alloc (.cells #[.slice aL nL cL] 24)).cell? ⟨w.heap.size + 1, 0, none⟩ = some (.slice aL nL cL) := by rw [World.cell?_alloc_at _ _ _ _ (by simp)]; rfl
  have c0 := hPP.out.c0
  have c1 := hPP.out.c1
  clear hb1 hP1
  go_enter Tryz.func39, Tryz.ntmps39
  go_wp2_with fail
  generalize ((w.alloc (.cells #[.slice aP nP cP, .slice aW nW cW] 26)).alloc (.cells #[.slice aL nL cL] 24)) = w2 at *
  have hlt2 := hPP.out.lt
  refine (impl_IsTree _ _ _ _ _ _ ps ws _ (H.out.below hbb)).mono ?_
  rintro e w3 ⟨rfl, hb3⟩
  have hP3 := hPP.out.below hb3
  have d0 := hP3.c0
  have d1 := hP3.c1
  have HP3 := Lib.hid hP3
  have d2 := cell_up hb3 hC1
  have hb13 := hbb.trans (hb3.mono hbb.size)
  clear hP3 c0 c1 hb3 hC1 hPP hbb
  cases hT : treeB ps ws
  · have Hv := Lib.hid (pays_no1 (l := l) hT)
    clear hT
    go_wp2_with fail
    go_ret2
    exact ⟨_, by rw [Hv.out]; rfl, by rw [lateV_no Hv.out]; exact Own.nil _ _, hb13⟩
  have HT := Lib.hid hT
  clear hT
  go_wp2_with fail
  refine (impl_isProcess _ _ _ _ _ _ ps ws _ _ _ l _ (H.out.below hb13) (HL.out.below hb13) hn).mono ?_
  rintro e w4 ⟨rfl, hb4⟩
  have hb14 := hb13.trans (hb4.mono hb13.size)
  have hP4 := HP3.out.below hb4
  have e0 := hP4.c0
  have e1 := hP4.c1
  have HP4 := Lib.hid hP4
  have e2 := cell_up hb4 d2
  clear d0 d1 d2 hP4 hb4
  cases hp : procB ps.length l
  · have Hv := Lib.hid (pays_no2 (ws := ws) hp)
    clear hp
    go_wp2_with fail
    go_ret2
    exact ⟨_, by rw [Hv.out]; rfl, by rw [lateV_no Hv.out]; exact Own.nil _ _, hb14⟩
  have Hpays := Lib.hid (pays_both HT.out hp)
  have hpp := procB_t hp
  have hTr := treeB_t HT.out
  have hn24 := hTr.n24
  have hn1 := hTr.n1
  have hnL : nP = nL := by have := hll.out; have := hpp.1; have := Hl.out; omega
  have hnW : nP = nW := by have := Hlw.out; have := hTr.wl; have := Hl.out; omega
  have hnP : 1 ≤ nP ∧ nP ≤ 24 := by have := Hl.out; omega
  have Hpp := Lib.hid hpp
  have HTr := Lib.hid hTr
  have HnW := Lib.hid hnW
  have hnW2 : nP ≤ nW := by omega
  have HC4 := Lib.hid e2
  clear hp hpp hn24 hn1 hTr hpn hwn hnW
  subst hnL
  go_wp2_with fail
  refine (impl_worth _ _ _ _ _ _ ps ws _ _ _ l _ 24 _ (H.out.below hb14) HTr.out (HL.out.below hb14) rfl Hpp.out.2 (.inl ⟨by omega, rfl⟩)).mono ?_
  rintro e w5 ⟨a1, c1, a2, c2, rfl, o1, o2, b5⟩
  have hb15 := hb14.trans (b5.mono hb14.size)
  have G1 := Lib.hid o2.ints
  have hbA := below_new w5 (.cells #[.slice a2 nP c2] 24)
  have hP5 := (HP4.out.below b5).below hbA
  have hC5 := cell_up hbA (cell_up b5 HC4.out)
  have hA5 : (w5.alloc (.cells #[.slice a2 nP c2] 24)).cell? ⟨w5.heap.size, 0, none⟩ = some (.slice a2 nP c2) := by rw [World.cell?_alloc_at _ _ _ _ rfl]; rfl
  have hb16 := hb15.trans (hbA.mono hb15.size)
  have HG1 := Lib.hid (G1.out.below hbA)
  have hs5 := b5.size
  clear o1 o2 e0 e1 e2 HP4 HC4 b5 G1
  have e0 := hP5.c0
  have e1 := hP5.c1
  go_upto_region 4 with fail
  have HP6 := Lib.hid hP5
  have HC6 := Lib.hid hC5
  have HA6 := Lib.hid hA5
  have hsz6 : w5.heap.size < (w5.alloc (.cells #[.slice a2 nP c2] 24)).heap.size := by simp
  clear hP5 hC5 hA5 hbA
  generalize (w5.alloc (.cells #[.slice a2 nP c2] 24)) = u0 at *
  have HBu := Lib.hid hb16
  have Hsl : Hid ((sums ps ws).length = nP) := Lib.hid (by rw [sums_length HTr.out]; exact Hl.out)
  have Hel : Hid ((endsB ps).length = nP) := Lib.hid (by rw [endsB_length]; exact Hl.out)
  go_cut [8, 9] (fun v8 v9 wc => LateR u0 wc nP ps ws v8 v9)
  case first =>
    have B : Below u0.heap.size u0 u0 := Below.refl _ _
    have PX := HP6.out
    have hltX : w.heap.size < u0.heap.size := PX.lt
    refine wp_region_noPanic ?_
    refine wp_region_held_drew (S := (fun W' => W'.cell? ⟨w.heap.size, 0, none⟩ = some (.slice aP nP cP) ∧ W'.cell? ⟨w.heap.size, 1, none⟩ = some (.slice aW nW cW))) (by kernel_rfl) ?_ (fun hHeld0 => ?_)
    · (try dsimp only); first | exact hS9 _ _ | exact hS8 _ | exact ⟨PX.c0, PX.c1⟩
    refine takeH (i := 0) (oi := _) (v := ?_) rfl (by kernel_rfl) (by kernel_rfl) (by kernel_rfl) (fun _ _ _ h => h) (Or.inl ⟨by rfl, ?_⟩) (by assumption) ?_
    rotate_left
    · first | (intro w hSw; (try dsimp only at hSw); go_simp; done) | (intro w hSw; (try dsimp only at hSw); go_simp; with_reducible rfl)
    (try simp only [Act.put, List.setIfInBounds_toArray, List.set_cons_zero, List.set_cons_succ])
    refine takeH (i := 2) (oi := _) (v := ?_) rfl (by kernel_rfl) (by kernel_rfl) (by kernel_rfl) (fun _ _ _ h => h) (Or.inl ⟨by rfl, ?_⟩) (by assumption) ?_
    rotate_left
    · first | (intro w hSw; (try dsimp only at hSw); go_simp; done) | (intro w hSw; (try dsimp only at hSw); go_simp; with_reducible rfl)
    (try simp only [Act.put, List.setIfInBounds_toArray, List.set_cons_zero, List.set_cons_succ])
    refine wpAnyH_ready (rs := [1, 4, 5]) (by kernel_rfl) (by simp) ?_
    refine consM rfl (fun Kq hKq => ?_) (consM rfl (fun Kq hKq => ?_) (consH rfl (fun Kq hKq => ?_)))
    · go_simp
      have Bw := HBu.out.trans (Below.mono B.drew HBu.out.size)
      go_at_call 72; refine (impl_sums _ _ _ _ _ _ ps ws _ (H.out.below Bw) HTr.out).mono ?_; rintro e w6 ⟨v6, rfl, o6, b6⟩
      obtain ⟨a6, c6, rfl⟩ := o6.shape
      rw [Hsl.out] at o6 ⊢
      have O6 := o6
      have L6' := World.ownsRow.lt o6
      have Z6 := b6.size
      (try simp at Z6)
      have B : Below u0.heap.size u0 w6 := Below.trans B.drew (b6.mono (Below.size B.drew))
      have PX : Pair w6 w.heap.size (.slice aP nP cP) (.slice aW nW cW) := Pair.below PX.drew b6
      refine hKq.out _ _ ?_ (fun hHeld1 => ?_)
      · (try dsimp only); first | exact hS9 _ _ | exact hS8 _ | exact ⟨PX.c0, PX.c1⟩
      clear hKq Kq
      (try simp only [Act.put, List.setIfInBounds_toArray, List.set_cons_zero, List.set_cons_succ])
      clear hHeld0
      refine wpAnyH_ready (rs := [3, 4, 5]) (by kernel_rfl) (by simp) ?_
      refine consM rfl (fun Kq hKq => ?_) (consM rfl (fun Kq hKq => ?_) (consH rfl (fun Kq hKq => ?_)))
      · go_simp
        have Bw := HBu.out.trans (Below.mono B HBu.out.size)
        go_at_call 104; refine (impl_isEnd _ _ _ _ _ _ ps ws _ (H.out.below Bw) HTr.out.toPa).mono ?_; rintro e w7 ⟨v7, rfl, o7, b7⟩
        obtain ⟨a7, c7, rfl⟩ := o7.shape
        rw [Hel.out] at o7 ⊢
        have O6 := (O6).below b7
        have O7 := o7
        have L7' := World.ownsRow.lt o7
        have Z7 := b7.size
        (try simp at Z7)
        have B : Below u0.heap.size u0 w7 := Below.trans B (b7.mono (Below.size B))
        have PX : Pair w7 w.heap.size (.slice aP nP cP) (.slice aW nW cW) := Pair.below PX b7
        refine hKq.out _ _ ?_ (fun hHeld2 => ?_)
        · (try dsimp only); first | exact hS9 _ _ | exact hS8 _ | exact ⟨PX.c0, PX.c1⟩
        clear hKq Kq
        (try simp only [Act.put, List.setIfInBounds_toArray, List.set_cons_zero, List.set_cons_succ])
        clear hHeld1
        refine wpAnyH_ready (rs := [4, 5]) (by kernel_rfl) (by simp) ?_
        refine consM rfl (fun Kq hKq => ?_) (consH rfl (fun Kq hKq => ?_))
        · go_simp
          have O6 := O6.below (below_new w7 (.cells #[.slice none 0 0] 24))
          have O7 := O7.below (below_new w7 (.cells #[.slice none 0 0] 24))
          have fs8 : Cel (w7.alloc (.cells #[.slice none 0 0] 24)) (w7.heap.size) (.slice none 0 0) := Cel.new _ _ _
          have B : Below u0.heap.size u0 (w7.alloc (.cells #[.slice none 0 0] 24)) := B.alloc B.size _
          have PX : Pair (w7.alloc (.cells #[.slice none 0 0] 24)) w.heap.size (.slice aP nP cP) (.slice aW nW cW) := PX.alloc _
          refine hKq.out _ _ ?_ (fun hHeld3 => ?_)
          · (try dsimp only); first | exact hS9 _ _ | exact hS8 _ | exact ⟨PX.c0, PX.c1⟩
          clear hKq Kq
          (try simp only [Act.put, List.setIfInBounds_toArray, List.set_cons_zero, List.set_cons_succ])
          clear hHeld2
          refine wpAnyH_ready (rs := [5]) (by kernel_rfl) (by simp) ?_
          refine consH rfl (fun Kq hKq => ?_)
          go_simp
          have fs8 := Cel.below fs8 (below_new (w7.alloc (.cells #[.slice none 0 0] 24)) (.cells #[.slice none 0 0] 63))
          have O6 := O6.below (below_new (w7.alloc (.cells #[.slice none 0 0] 24)) (.cells #[.slice none 0 0] 63))
          have O7 := O7.below (below_new (w7.alloc (.cells #[.slice none 0 0] 24)) (.cells #[.slice none 0 0] 63))
          have fs9 : Cel ((w7.alloc (.cells #[.slice none 0 0] 24)).alloc (.cells #[.slice none 0 0] 63)) (w7.heap.size + 1) (.slice none 0 0) := by
            have := Cel.new (w7.alloc (.cells #[.slice none 0 0] 24)) (.slice none 0 0) 63
            simpa using this
          have B : Below u0.heap.size u0 ((w7.alloc (.cells #[.slice none 0 0] 24)).alloc (.cells #[.slice none 0 0] 63)) := B.alloc B.size _
          have PX : Pair ((w7.alloc (.cells #[.slice none 0 0] 24)).alloc (.cells #[.slice none 0 0] 63)) w.heap.size (.slice aP nP cP) (.slice aW nW cW) := PX.alloc _
          have hne : (w7.heap.size : Nat) ≠ w7.heap.size + 1 := by first | omega | (simp; done)
          have n8 : w.heap.size ≠ w7.heap.size := by omega
          have n9 : w.heap.size ≠ w7.heap.size + 1 := by omega
          generalize ((w7.alloc (.cells #[.slice none 0 0] 24)).alloc (.cells #[.slice none 0 0] 63)) = wz at *
          have x0 := fs8.c
          have x1 := fs8.f
          have G9 := Cel.far fs9 (fun e => hne e.symm) (.slice a6 nP c6)
          have y0 := G9.c
          have y1 := G9.f
          have hS8 : ∀ v, (wz.setCell ⟨w7.heap.size, 0, none⟩ v).cell? ⟨w.heap.size, 0, none⟩ = some (.slice aP nP cP) ∧ (wz.setCell ⟨w7.heap.size, 0, none⟩ v).cell? ⟨w.heap.size, 1, none⟩ = some (.slice aW nW cW) := fun v => ⟨cell_far PX.c0 n8, cell_far PX.c1 n8⟩
          have hS9 : ∀ v v', ((wz.setCell ⟨w7.heap.size, 0, none⟩ v).setCell ⟨w7.heap.size + 1, 0, none⟩ v').cell? ⟨w.heap.size, 0, none⟩ = some (.slice aP nP cP) ∧ ((wz.setCell ⟨w7.heap.size, 0, none⟩ v).setCell ⟨w7.heap.size + 1, 0, none⟩ v').cell? ⟨w.heap.size, 1, none⟩ = some (.slice aW nW cW) := fun v v' => ⟨cell_far (cell_far PX.c0 n8) n9, cell_far (cell_far PX.c1 n8) n9⟩
          refine hKq.out _ _ ?_ (fun hHeld4 => ?_)
          · (try dsimp only); first | exact hS9 _ _ | exact hS8 _ | exact ⟨PX.c0, PX.c1⟩
          clear hKq Kq
          (try simp only [Act.put, List.setIfInBounds_toArray, List.set_cons_zero, List.set_cons_succ])
          clear hHeld3
          refine wpAnyH_ready (rs := [6]) (by kernel_rfl) (by simp) ?_
          refine consH rfl (fun Kq hKq => ?_)
          go_simp
          refine hKq.out _ _ ?_ (fun hHeld5 => ?_)
          · (try dsimp only); first | exact hS9 _ _ | exact hS8 _ | exact ⟨PX.c0, PX.c1⟩
          clear hKq Kq
          (try simp only [Act.put, List.setIfInBounds_toArray, List.set_cons_zero, List.set_cons_succ])
          clear hHeld4
          refine wpAnyH_ready (rs := [7]) (by kernel_rfl) (by simp) ?_
          refine consH rfl (fun Kq hKq => ?_)
          go_simp
          refine hKq.out _ _ ?_ (fun hHeld6 => ?_)
          · (try dsimp only); first | exact hS9 _ _ | exact hS8 _ | exact ⟨PX.c0, PX.c1⟩
          clear hKq Kq
          (try simp only [Act.put, List.setIfInBounds_toArray, List.set_cons_zero, List.set_cons_succ])
          clear hHeld5
          refine wpAnyH_done (by kernel_rfl) ?_ _
          refine NoPanic.normal ?_
          go_wp2_with fail
          go_meet
          exact lateR_mk B fs8 fs9 hne O6 O7 (fun g hg => by have h1 := L6' g hg; (try simp at h1); constructor <;> (try simp) <;> omega) (fun g hg => by have h1 := L7' g hg; (try simp at h1); constructor <;> (try simp) <;> omega) (by first | omega | (simp; omega) | simp) (by first | omega | (simp; omega) | simp)
        · go_simp
          have O6 := O6.below (below_new w7 (.cells #[.slice none 0 0] 63))
          have O7 := O7.below (below_new w7 (.cells #[.slice none 0 0] 63))
          have fs9 : Cel (w7.alloc (.cells #[.slice none 0 0] 63)) (w7.heap.size) (.slice none 0 0) := Cel.new _ _ _
          have B : Below u0.heap.size u0 (w7.alloc (.cells #[.slice none 0 0] 63)) := B.alloc B.size _
          have PX : Pair (w7.alloc (.cells #[.slice none 0 0] 63)) w.heap.size (.slice aP nP cP) (.slice aW nW cW) := PX.alloc _
          refine hKq.out _ _ ?_ (fun hHeld3 => ?_)
          · (try dsimp only); first | exact hS9 _ _ | exact hS8 _ | exact ⟨PX.c0, PX.c1⟩
          clear hKq Kq
          (try simp only [Act.put, List.setIfInBounds_toArray, List.set_cons_zero, List.set_cons_succ])
          clear hHeld2
          refine wpAnyH_ready (rs := [4]) (by kernel_rfl) (by simp) ?_
          refine consH rfl (fun Kq hKq => ?_)
          go_simp
          have fs9 := Cel.below fs9 (below_new (w7.alloc (.cells #[.slice none 0 0] 63)) (.cells #[.slice none 0 0] 24))
          have O6 := O6.below (below_new (w7.alloc (.cells #[.slice none 0 0] 63)) (.cells #[.slice none 0 0] 24))
          have O7 := O7.below (below_new (w7.alloc (.cells #[.slice none 0 0] 63)) (.cells #[.slice none 0 0] 24))
          have fs8 : Cel ((w7.alloc (.cells #[.slice none 0 0] 63)).alloc (.cells #[.slice none 0 0] 24)) (w7.heap.size + 1) (.slice none 0 0) := by
            have := Cel.new (w7.alloc (.cells #[.slice none 0 0] 63)) (.slice none 0 0) 24
            simpa using this
          have B : Below u0.heap.size u0 ((w7.alloc (.cells #[.slice none 0 0] 63)).alloc (.cells #[.slice none 0 0] 24)) := B.alloc B.size _
          have PX : Pair ((w7.alloc (.cells #[.slice none 0 0] 63)).alloc (.cells #[.slice none 0 0] 24)) w.heap.size (.slice aP nP cP) (.slice aW nW cW) := PX.alloc _
          have hne : (w7.heap.size + 1 : Nat) ≠ w7.heap.size := by first | omega | (simp; done)
          have n8 : w.heap.size ≠ w7.heap.size + 1 := by omega
          have n9 : w.heap.size ≠ w7.heap.size := by omega
          generalize ((w7.alloc (.cells #[.slice none 0 0] 63)).alloc (.cells #[.slice none 0 0] 24)) = wz at *
          have x0 := fs8.c
          have x1 := fs8.f
          have G9 := Cel.far fs9 (fun e => hne e.symm) (.slice a6 nP c6)
          have y0 := G9.c
          have y1 := G9.f
          have hS8 : ∀ v, (wz.setCell ⟨w7.heap.size + 1, 0, none⟩ v).cell? ⟨w.heap.size, 0, none⟩ = some (.slice aP nP cP) ∧ (wz.setCell ⟨w7.heap.size + 1, 0, none⟩ v).cell? ⟨w.heap.size, 1, none⟩ = some (.slice aW nW cW) := fun v => ⟨cell_far PX.c0 n8, cell_far PX.c1 n8⟩
          have hS9 : ∀ v v', ((wz.setCell ⟨w7.heap.size + 1, 0, none⟩ v).setCell ⟨w7.heap.size, 0, none⟩ v').cell? ⟨w.heap.size, 0, none⟩ = some (.slice aP nP cP) ∧ ((wz.setCell ⟨w7.heap.size + 1, 0, none⟩ v).setCell ⟨w7.heap.size, 0, none⟩ v').cell? ⟨w.heap.size, 1, none⟩ = some (.slice aW nW cW) := fun v v' => ⟨cell_far (cell_far PX.c0 n8) n9, cell_far (cell_far PX.c1 n8) n9⟩
          refine hKq.out _ _ ?_ (fun hHeld4 => ?_)
          · (try dsimp only); first | exact hS9 _ _ | exact hS8 _ | exact ⟨PX.c0, PX.c1⟩
          clear hKq Kq
          (try simp only [Act.put, List.setIfInBounds_toArray, List.set_cons_zero, List.set_cons_succ])
          clear hHeld3
          refine wpAnyH_ready (rs := [6]) (by kernel_rfl) (by simp) ?_
          refine consH rfl (fun Kq hKq => ?_)
          go_simp
          refine hKq.out _ _ ?_ (fun hHeld5 => ?_)
          · (try dsimp only); first | exact hS9 _ _ | exact hS8 _ | exact ⟨PX.c0, PX.c1⟩
          clear hKq Kq
          (try simp only [Act.put, List.setIfInBounds_toArray, List.set_cons_zero, List.set_cons_succ])
          clear hHeld4
          refine wpAnyH_ready (rs := [7]) (by kernel_rfl) (by simp) ?_
          refine consH rfl (fun Kq hKq => ?_)
          go_simp
          refine hKq.out _ _ ?_ (fun hHeld6 => ?_)
          · (try dsimp only); first | exact hS9 _ _ | exact hS8 _ | exact ⟨PX.c0, PX.c1⟩
          clear hKq Kq
          (try simp only [Act.put, List.setIfInBounds_toArray, List.set_cons_zero, List.set_cons_succ])
          clear hHeld5
          refine wpAnyH_done (by kernel_rfl) ?_ _
          refine NoPanic.normal ?_
          go_wp2_with fail
          go_meet
          exact lateR_mk B fs8 fs9 hne O6 O7 (fun g hg => by have h1 := L6' g hg; (try simp at h1); constructor <;> (try simp) <;> omega) (fun g hg => by have h1 := L7' g hg; (try simp at h1); constructor <;> (try simp) <;> omega) (by first | omega | (simp; omega) | simp) (by first | omega | (simp; omega) | simp)
      · go_simp
        have O6 := O6.below (below_new w6 (.cells #[.slice none 0 0] 24))
        have fs8 : Cel (w6.alloc (.cells #[.slice none 0 0] 24)) (w6.heap.size) (.slice none 0 0) := Cel.new _ _ _
        have B : Below u0.heap.size u0 (w6.alloc (.cells #[.slice none 0 0] 24)) := B.alloc B.size _
        have PX : Pair (w6.alloc (.cells #[.slice none 0 0] 24)) w.heap.size (.slice aP nP cP) (.slice aW nW cW) := PX.alloc _
        refine hKq.out _ _ ?_ (fun hHeld2 => ?_)
        · (try dsimp only); first | exact hS9 _ _ | exact hS8 _ | exact ⟨PX.c0, PX.c1⟩
        clear hKq Kq
        (try simp only [Act.put, List.setIfInBounds_toArray, List.set_cons_zero, List.set_cons_succ])
        clear hHeld1
        refine wpAnyH_ready (rs := [3, 5]) (by kernel_rfl) (by simp) ?_
        refine consM rfl (fun Kq hKq => ?_) (consH rfl (fun Kq hKq => ?_))
        · go_simp
          have Bw := HBu.out.trans (Below.mono B HBu.out.size)
          go_at_call 104; refine (impl_isEnd _ _ _ _ _ _ ps ws _ (H.out.below Bw) HTr.out.toPa).mono ?_; rintro e w7 ⟨v7, rfl, o7, b7⟩
          obtain ⟨a7, c7, rfl⟩ := o7.shape
          rw [Hel.out] at o7 ⊢
          have O6 := (O6).below b7
          have O7 := o7
          have L7' := World.ownsRow.lt o7
          have Z7 := b7.size
          (try simp at Z7)
          have fs8 := Cel.below fs8 b7
          have B : Below u0.heap.size u0 w7 := Below.trans B (b7.mono (Below.size B))
          have PX : Pair w7 w.heap.size (.slice aP nP cP) (.slice aW nW cW) := Pair.below PX b7
          refine hKq.out _ _ ?_ (fun hHeld3 => ?_)
          · (try dsimp only); first | exact hS9 _ _ | exact hS8 _ | exact ⟨PX.c0, PX.c1⟩
          clear hKq Kq
          (try simp only [Act.put, List.setIfInBounds_toArray, List.set_cons_zero, List.set_cons_succ])
          clear hHeld2
          refine wpAnyH_ready (rs := [5]) (by kernel_rfl) (by simp) ?_
          refine consH rfl (fun Kq hKq => ?_)
          go_simp
          have fs8 := Cel.below fs8 (below_new w7 (.cells #[.slice none 0 0] 63))
          have O6 := O6.below (below_new w7 (.cells #[.slice none 0 0] 63))
          have O7 := O7.below (below_new w7 (.cells #[.slice none 0 0] 63))
          have fs9 : Cel (w7.alloc (.cells #[.slice none 0 0] 63)) (w7.heap.size) (.slice none 0 0) := Cel.new _ _ _
          have B : Below u0.heap.size u0 (w7.alloc (.cells #[.slice none 0 0] 63)) := B.alloc B.size _
          have PX : Pair (w7.alloc (.cells #[.slice none 0 0] 63)) w.heap.size (.slice aP nP cP) (.slice aW nW cW) := PX.alloc _
          have hne : (w6.heap.size : Nat) ≠ w7.heap.size := by first | omega | (simp; done)
          have n8 : w.heap.size ≠ w6.heap.size := by omega
          have n9 : w.heap.size ≠ w7.heap.size := by omega
          generalize (w7.alloc (.cells #[.slice none 0 0] 63)) = wz at *
          have x0 := fs8.c
          have x1 := fs8.f
          have G9 := Cel.far fs9 (fun e => hne e.symm) (.slice a6 nP c6)
          have y0 := G9.c
          have y1 := G9.f
          have hS8 : ∀ v, (wz.setCell ⟨w6.heap.size, 0, none⟩ v).cell? ⟨w.heap.size, 0, none⟩ = some (.slice aP nP cP) ∧ (wz.setCell ⟨w6.heap.size, 0, none⟩ v).cell? ⟨w.heap.size, 1, none⟩ = some (.slice aW nW cW) := fun v => ⟨cell_far PX.c0 n8, cell_far PX.c1 n8⟩
          have hS9 : ∀ v v', ((wz.setCell ⟨w6.heap.size, 0, none⟩ v).setCell ⟨w7.heap.size, 0, none⟩ v').cell? ⟨w.heap.size, 0, none⟩ = some (.slice aP nP cP) ∧ ((wz.setCell ⟨w6.heap.size, 0, none⟩ v).setCell ⟨w7.heap.size, 0, none⟩ v').cell? ⟨w.heap.size, 1, none⟩ = some (.slice aW nW cW) := fun v v' => ⟨cell_far (cell_far PX.c0 n8) n9, cell_far (cell_far PX.c1 n8) n9⟩
          refine hKq.out _ _ ?_ (fun hHeld4 => ?_)
          · (try dsimp only); first | exact hS9 _ _ | exact hS8 _ | exact ⟨PX.c0, PX.c1⟩
          clear hKq Kq
          (try simp only [Act.put, List.setIfInBounds_toArray, List.set_cons_zero, List.set_cons_succ])
          clear hHeld3
          refine wpAnyH_ready (rs := [6]) (by kernel_rfl) (by simp) ?_
          refine consH rfl (fun Kq hKq => ?_)
          go_simp
          refine hKq.out _ _ ?_ (fun hHeld5 => ?_)
          · (try dsimp only); first | exact hS9 _ _ | exact hS8 _ | exact ⟨PX.c0, PX.c1⟩
          clear hKq Kq
          (try simp only [Act.put, List.setIfInBounds_toArray, List.set_cons_zero, List.set_cons_succ])
          clear hHeld4
          refine wpAnyH_ready (rs := [7]) (by kernel_rfl) (by simp) ?_
          refine consH rfl (fun Kq hKq => ?_)
          go_simp
          refine hKq.out _ _ ?_ (fun hHeld6 => ?_)
          · (try dsimp only); first | exact hS9 _ _ | exact hS8 _ | exact ⟨PX.c0, PX.c1⟩
          clear hKq Kq
          (try simp only [Act.put, List.setIfInBounds_toArray, List.set_cons_zero, List.set_cons_succ])
          clear hHeld5
          refine wpAnyH_done (by kernel_rfl) ?_ _
          refine NoPanic.normal ?_
          go_wp2_with fail
          go_meet
          exact lateR_mk B fs8 fs9 hne O6 O7 (fun g hg => by have h1 := L6' g hg; (try simp at h1); constructor <;> (try simp) <;> omega) (fun g hg => by have h1 := L7' g hg; (try simp at h1); constructor <;> (try simp) <;> omega) (by first | omega | (simp; omega) | simp) (by first | omega | (simp; omega) | simp)
        · go_simp
          have fs8 := Cel.below fs8 (below_new (w6.alloc (.cells #[.slice none 0 0] 24)) (.cells #[.slice none 0 0] 63))
          have O6 := O6.below (below_new (w6.alloc (.cells #[.slice none 0 0] 24)) (.cells #[.slice none 0 0] 63))
          have fs9 : Cel ((w6.alloc (.cells #[.slice none 0 0] 24)).alloc (.cells #[.slice none 0 0] 63)) (w6.heap.size + 1) (.slice none 0 0) := by
            have := Cel.new (w6.alloc (.cells #[.slice none 0 0] 24)) (.slice none 0 0) 63
            simpa using this
          have B : Below u0.heap.size u0 ((w6.alloc (.cells #[.slice none 0 0] 24)).alloc (.cells #[.slice none 0 0] 63)) := B.alloc B.size _
          have PX : Pair ((w6.alloc (.cells #[.slice none 0 0] 24)).alloc (.cells #[.slice none 0 0] 63)) w.heap.size (.slice aP nP cP) (.slice aW nW cW) := PX.alloc _
          refine hKq.out _ _ ?_ (fun hHeld3 => ?_)
          · (try dsimp only); first | exact hS9 _ _ | exact hS8 _ | exact ⟨PX.c0, PX.c1⟩
          clear hKq Kq
          (try simp only [Act.put, List.setIfInBounds_toArray, List.set_cons_zero, List.set_cons_succ])
          clear hHeld2
          refine wpAnyH_ready (rs := [3]) (by kernel_rfl) (by simp) ?_
          refine consH rfl (fun Kq hKq => ?_)
          go_simp
          have Bw := HBu.out.trans (Below.mono B HBu.out.size)
          go_at_call 104; refine (impl_isEnd _ _ _ _ _ _ ps ws _ (H.out.below Bw) HTr.out.toPa).mono ?_; rintro e w7 ⟨v7, rfl, o7, b7⟩
          obtain ⟨a7, c7, rfl⟩ := o7.shape
          rw [Hel.out] at o7 ⊢
          have O6 := (O6).below b7
          have O7 := o7
          have L7' := World.ownsRow.lt o7
          have Z7 := b7.size
          (try simp at Z7)
          have fs8 := Cel.below fs8 b7
          have fs9 := Cel.below fs9 b7
          have B : Below u0.heap.size u0 w7 := Below.trans B (b7.mono (Below.size B))
          have PX : Pair w7 w.heap.size (.slice aP nP cP) (.slice aW nW cW) := Pair.below PX b7
          have hne : (w6.heap.size : Nat) ≠ w6.heap.size + 1 := by first | omega | (simp; done)
          have n8 : w.heap.size ≠ w6.heap.size := by omega
          have n9 : w.heap.size ≠ w6.heap.size + 1 := by omega
          have x0 := fs8.c
          have x1 := fs8.f
          have G9 := Cel.far fs9 (fun e => hne e.symm) (.slice a6 nP c6)
          have y0 := G9.c
          have y1 := G9.f
          have hS8 : ∀ v, (w7.setCell ⟨w6.heap.size, 0, none⟩ v).cell? ⟨w.heap.size, 0, none⟩ = some (.slice aP nP cP) ∧ (w7.setCell ⟨w6.heap.size, 0, none⟩ v).cell? ⟨w.heap.size, 1, none⟩ = some (.slice aW nW cW) := fun v => ⟨cell_far PX.c0 n8, cell_far PX.c1 n8⟩
          have hS9 : ∀ v v', ((w7.setCell ⟨w6.heap.size, 0, none⟩ v).setCell ⟨w6.heap.size + 1, 0, none⟩ v').cell? ⟨w.heap.size, 0, none⟩ = some (.slice aP nP cP) ∧ ((w7.setCell ⟨w6.heap.size, 0, none⟩ v).setCell ⟨w6.heap.size + 1, 0, none⟩ v').cell? ⟨w.heap.size, 1, none⟩ = some (.slice aW nW cW) := fun v v' => ⟨cell_far (cell_far PX.c0 n8) n9, cell_far (cell_far PX.c1 n8) n9⟩
          refine hKq.out _ _ ?_ (fun hHeld4 => ?_)
          · (try dsimp only); first | exact hS9 _ _ | exact hS8 _ | exact ⟨PX.c0, PX.c1⟩
          clear hKq Kq
          (try simp only [Act.put, List.setIfInBounds_toArray, List.set_cons_zero, List.set_cons_succ])
          clear hHeld3
          refine wpAnyH_ready (rs := [6]) (by kernel_rfl) (by simp) ?_
          refine consH rfl (fun Kq hKq => ?_)
          go_simp
          refine hKq.out _ _ ?_ (fun hHeld5 => ?_)
          · (try dsimp only); first | exact hS9 _ _ | exact hS8 _ | exact ⟨PX.c0, PX.c1⟩
          clear hKq Kq
          (try simp only [Act.put, List.setIfInBounds_toArray, List.set_cons_zero, List.set_cons_succ])
          clear hHeld4
          refine wpAnyH_ready (rs := [7]) (by kernel_rfl) (by simp) ?_
          refine consH rfl (fun Kq hKq => ?_)
          go_simp
          refine hKq.out _ _ ?_ (fun hHeld6 => ?_)
          · (try dsimp only); first | exact hS9 _ _ | exact hS8 _ | exact ⟨PX.c0, PX.c1⟩
          clear hKq Kq
          (try simp only [Act.put, List.setIfInBounds_toArray, List.set_cons_zero, List.set_cons_succ])
          clear hHeld5
          refine wpAnyH_done (by kernel_rfl) ?_ _
          refine NoPanic.normal ?_
          go_wp2_with fail
          go_meet
          exact lateR_mk B fs8 fs9 hne O6 O7 (fun g hg => by have h1 := L6' g hg; (try simp at h1); constructor <;> (try simp) <;> omega) (fun g hg => by have h1 := L7' g hg; (try simp at h1); constructor <;> (try simp) <;> omega) (by first | omega | (simp; omega) | simp) (by first | omega | (simp; omega) | simp)
      · go_simp
        have O6 := O6.below (below_new w6 (.cells #[.slice none 0 0] 63))
        have fs9 : Cel (w6.alloc (.cells #[.slice none 0 0] 63)) (w6.heap.size) (.slice none 0 0) := Cel.new _ _ _
        have B : Below u0.heap.size u0 (w6.alloc (.cells #[.slice none 0 0] 63)) := B.alloc B.size _
        have PX : Pair (w6.alloc (.cells #[.slice none 0 0] 63)) w.heap.size (.slice aP nP cP) (.slice aW nW cW) := PX.alloc _
        refine hKq.out _ _ ?_ (fun hHeld2 => ?_)
        · (try dsimp only); first | exact hS9 _ _ | exact hS8 _ | exact ⟨PX.c0, PX.c1⟩
        clear hKq Kq
        (try simp only [Act.put, List.setIfInBounds_toArray, List.set_cons_zero, List.set_cons_succ])
        clear hHeld1
        refine wpAnyH_ready (rs := [3, 4]) (by kernel_rfl) (by simp) ?_
        refine consM rfl (fun Kq hKq => ?_) (consH rfl (fun Kq hKq => ?_))
        · go_simp
          have Bw := HBu.out.trans (Below.mono B HBu.out.size)
          go_at_call 104; refine (impl_isEnd _ _ _ _ _ _ ps ws _ (H.out.below Bw) HTr.out.toPa).mono ?_; rintro e w7 ⟨v7, rfl, o7, b7⟩
          obtain ⟨a7, c7, rfl⟩ := o7.shape
          rw [Hel.out] at o7 ⊢
          have O6 := (O6).below b7
          have O7 := o7
          have L7' := World.ownsRow.lt o7
          have Z7 := b7.size
          (try simp at Z7)
          have fs9 := Cel.below fs9 b7
          have B : Below u0.heap.size u0 w7 := Below.trans B (b7.mono (Below.size B))
          have PX : Pair w7 w.heap.size (.slice aP nP cP) (.slice aW nW cW) := Pair.below PX b7
          refine hKq.out _ _ ?_ (fun hHeld3 => ?_)
          · (try dsimp only); first | exact hS9 _ _ | exact hS8 _ | exact ⟨PX.c0, PX.c1⟩
          clear hKq Kq
          (try simp only [Act.put, List.setIfInBounds_toArray, List.set_cons_zero, List.set_cons_succ])
          clear hHeld2
          refine wpAnyH_ready (rs := [4]) (by kernel_rfl) (by simp) ?_
          refine consH rfl (fun Kq hKq => ?_)
          go_simp
          have fs9 := Cel.below fs9 (below_new w7 (.cells #[.slice none 0 0] 24))
          have O6 := O6.below (below_new w7 (.cells #[.slice none 0 0] 24))
          have O7 := O7.below (below_new w7 (.cells #[.slice none 0 0] 24))
          have fs8 : Cel (w7.alloc (.cells #[.slice none 0 0] 24)) (w7.heap.size) (.slice none 0 0) := Cel.new _ _ _
          have B : Below u0.heap.size u0 (w7.alloc (.cells #[.slice none 0 0] 24)) := B.alloc B.size _
          have PX : Pair (w7.alloc (.cells #[.slice none 0 0] 24)) w.heap.size (.slice aP nP cP) (.slice aW nW cW) := PX.alloc _
          have hne : (w7.heap.size : Nat) ≠ w6.heap.size := by first | omega | (simp; done)
          have n8 : w.heap.size ≠ w7.heap.size := by omega
          have n9 : w.heap.size ≠ w6.heap.size := by omega
          generalize (w7.alloc (.cells #[.slice none 0 0] 24)) = wz at *
          have x0 := fs8.c
          have x1 := fs8.f
          have G9 := Cel.far fs9 (fun e => hne e.symm) (.slice a6 nP c6)
          have y0 := G9.c
          have y1 := G9.f
          have hS8 : ∀ v, (wz.setCell ⟨w7.heap.size, 0, none⟩ v).cell? ⟨w.heap.size, 0, none⟩ = some (.slice aP nP cP) ∧ (wz.setCell ⟨w7.heap.size, 0, none⟩ v).cell? ⟨w.heap.size, 1, none⟩ = some (.slice aW nW cW) := fun v => ⟨cell_far PX.c0 n8, cell_far PX.c1 n8⟩
          have hS9 : ∀ v v', ((wz.setCell ⟨w7.heap.size, 0, none⟩ v).setCell ⟨w6.heap.size, 0, none⟩ v').cell? ⟨w.heap.size, 0, none⟩ = some (.slice aP nP cP) ∧ ((wz.setCell ⟨w7.heap.size, 0, none⟩ v).setCell ⟨w6.heap.size, 0, none⟩ v').cell? ⟨w.heap.size, 1, none⟩ = some (.slice aW nW cW) := fun v v' => ⟨cell_far (cell_far PX.c0 n8) n9, cell_far (cell_far PX.c1 n8) n9⟩
          refine hKq.out _ _ ?_ (fun hHeld4 => ?_)
          · (try dsimp only); first | exact hS9 _ _ | exact hS8 _ | exact ⟨PX.c0, PX.c1⟩
          clear hKq Kq
          (try simp only [Act.put, List.setIfInBounds_toArray, List.set_cons_zero, List.set_cons_succ])
          clear hHeld3
          refine wpAnyH_ready (rs := [6]) (by kernel_rfl) (by simp) ?_
          refine consH rfl (fun Kq hKq => ?_)
          go_simp
          refine hKq.out _ _ ?_ (fun hHeld5 => ?_)
          · (try dsimp only); first | exact hS9 _ _ | exact hS8 _ | exact ⟨PX.c0, PX.c1⟩
          clear hKq Kq
          (try simp only [Act.put, List.setIfInBounds_toArray, List.set_cons_zero, List.set_cons_succ])
          clear hHeld4
          refine wpAnyH_ready (rs := [7]) (by kernel_rfl) (by simp) ?_
          refine consH rfl (fun Kq hKq => ?_)
          go_simp
          refine hKq.out _ _ ?_ (fun hHeld6 => ?_)
          · (try dsimp only); first | exact hS9 _ _ | exact hS8 _ | exact ⟨PX.c0, PX.c1⟩
          clear hKq Kq
          (try simp only [Act.put, List.setIfInBounds_toArray, List.set_cons_zero, List.set_cons_succ])
          clear hHeld5
          refine wpAnyH_done (by kernel_rfl) ?_ _
          refine NoPanic.normal ?_
          go_wp2_with fail
          go_meet
          exact lateR_mk B fs8 fs9 hne O6 O7 (fun g hg => by have h1 := L6' g hg; (try simp at h1); constructor <;> (try simp) <;> omega) (fun g hg => by have h1 := L7' g hg; (try simp at h1); constructor <;> (try simp) <;> omega) (by first | omega | (simp; omega) | simp) (by first | omega | (simp; omega) | simp)
        · go_simp
          have fs9 := Cel.below fs9 (below_new (w6.alloc (.cells #[.slice none 0 0] 63)) (.cells #[.slice none 0 0] 24))
          have O6 := O6.below (below_new (w6.alloc (.cells #[.slice none 0 0] 63)) (.cells #[.slice none 0 0] 24))
          have fs8 : Cel ((w6.alloc (.cells #[.slice none 0 0] 63)).alloc (.cells #[.slice none 0 0] 24)) (w6.heap.size + 1) (.slice none 0 0) := by
            have := Cel.new (w6.alloc (.cells #[.slice none 0 0] 63)) (.slice none 0 0) 24
            simpa using this
          have B : Below u0.heap.size u0 ((w6.alloc (.cells #[.slice none 0 0] 63)).alloc (.cells #[.slice none 0 0] 24)) := B.alloc B.size _
          have PX : Pair ((w6.alloc (.cells #[.slice none 0 0] 63)).alloc (.cells #[.slice none 0 0] 24)) w.heap.size (.slice aP nP cP) (.slice aW nW cW) := PX.alloc _
          refine hKq.out _ _ ?_ (fun hHeld3 => ?_)
          · (try dsimp only); first | exact hS9 _ _ | exact hS8 _ | exact ⟨PX.c0, PX.c1⟩
          clear hKq Kq
          (try simp only [Act.put, List.setIfInBounds_toArray, List.set_cons_zero, List.set_cons_succ])
          clear hHeld2
          refine wpAnyH_ready (rs := [3]) (by kernel_rfl) (by simp) ?_
          refine consH rfl (fun Kq hKq => ?_)
          go_simp
          have Bw := HBu.out.trans (Below.mono B HBu.out.size)
          go_at_call 104; refine (impl_isEnd _ _ _ _ _ _ ps ws _ (H.out.below Bw) HTr.out.toPa).mono ?_; rintro e w7 ⟨v7, rfl, o7, b7⟩
          obtain ⟨a7, c7, rfl⟩ := o7.shape
          rw [Hel.out] at o7 ⊢
          have O6 := (O6).below b7
          have O7 := o7
          have L7' := World.ownsRow.lt o7
          have Z7 := b7.size
          (try simp at Z7)
          have fs8 := Cel.below fs8 b7
          have fs9 := Cel.below fs9 b7
          have B : Below u0.heap.size u0 w7 := Below.trans B (b7.mono (Below.size B))
          have PX : Pair w7 w.heap.size (.slice aP nP cP) (.slice aW nW cW) := Pair.below PX b7
          have hne : (w6.heap.size + 1 : Nat) ≠ w6.heap.size := by first | omega | (simp; done)
          have n8 : w.heap.size ≠ w6.heap.size + 1 := by omega
          have n9 : w.heap.size ≠ w6.heap.size := by omega
          have x0 := fs8.c
          have x1 := fs8.f
          have G9 := Cel.far fs9 (fun e => hne e.symm) (.slice a6 nP c6)
          have y0 := G9.c
          have y1 := G9.f
          have hS8 : ∀ v, (w7.setCell ⟨w6.heap.size + 1, 0, none⟩ v).cell? ⟨w.heap.size, 0, none⟩ = some (.slice aP nP cP) ∧ (w7.setCell ⟨w6.heap.size + 1, 0, none⟩ v).cell? ⟨w.heap.size, 1, none⟩ = some (.slice aW nW cW) := fun v => ⟨cell_far PX.c0 n8, cell_far PX.c1 n8⟩
          have hS9 : ∀ v v', ((w7.setCell ⟨w6.heap.size + 1, 0, none⟩ v).setCell ⟨w6.heap.size, 0, none⟩ v').cell? ⟨w.heap.size, 0, none⟩ = some (.slice aP nP cP) ∧ ((w7.setCell ⟨w6.heap.size + 1, 0, none⟩ v).setCell ⟨w6.heap.size, 0, none⟩ v').cell? ⟨w.heap.size, 1, none⟩ = some (.slice aW nW cW) := fun v v' => ⟨cell_far (cell_far PX.c0 n8) n9, cell_far (cell_far PX.c1 n8) n9⟩
          refine hKq.out _ _ ?_ (fun hHeld4 => ?_)
          · (try dsimp only); first | exact hS9 _ _ | exact hS8 _ | exact ⟨PX.c0, PX.c1⟩
          clear hKq Kq
          (try simp only [Act.put, List.setIfInBounds_toArray, List.set_cons_zero, List.set_cons_succ])
          clear hHeld3
          refine wpAnyH_ready (rs := [6]) (by kernel_rfl) (by simp) ?_
          refine consH rfl (fun Kq hKq => ?_)
          go_simp
          refine hKq.out _ _ ?_ (fun hHeld5 => ?_)
          · (try dsimp only); first | exact hS9 _ _ | exact hS8 _ | exact ⟨PX.c0, PX.c1⟩
          clear hKq Kq
          (try simp only [Act.put, List.setIfInBounds_toArray, List.set_cons_zero, List.set_cons_succ])
          clear hHeld4
          refine wpAnyH_ready (rs := [7]) (by kernel_rfl) (by simp) ?_
          refine consH rfl (fun Kq hKq => ?_)
          go_simp
          refine hKq.out _ _ ?_ (fun hHeld6 => ?_)
          · (try dsimp only); first | exact hS9 _ _ | exact hS8 _ | exact ⟨PX.c0, PX.c1⟩
          clear hKq Kq
          (try simp only [Act.put, List.setIfInBounds_toArray, List.set_cons_zero, List.set_cons_succ])
          clear hHeld5
          refine wpAnyH_done (by kernel_rfl) ?_ _
          refine NoPanic.normal ?_
          go_wp2_with fail
          go_meet
          exact lateR_mk B fs8 fs9 hne O6 O7 (fun g hg => by have h1 := L6' g hg; (try simp at h1); constructor <;> (try simp) <;> omega) (fun g hg => by have h1 := L7' g hg; (try simp at h1); constructor <;> (try simp) <;> omega) (by first | omega | (simp; omega) | simp) (by first | omega | (simp; omega) | simp)
    · go_simp
      have fs8 : Cel (u0.alloc (.cells #[.slice none 0 0] 24)) (u0.heap.size) (.slice none 0 0) := Cel.new _ _ _
      have B : Below u0.heap.size u0 (u0.alloc (.cells #[.slice none 0 0] 24)) := B.alloc B.size _
      have PX : Pair (u0.alloc (.cells #[.slice none 0 0] 24)) w.heap.size (.slice aP nP cP) (.slice aW nW cW) := PX.alloc _
      refine hKq.out _ _ ?_ (fun hHeld1 => ?_)
      · (try dsimp only); first | exact hS9 _ _ | exact hS8 _ | exact ⟨PX.c0, PX.c1⟩
      clear hKq Kq
      (try simp only [Act.put, List.setIfInBounds_toArray, List.set_cons_zero, List.set_cons_succ])
      clear hHeld0
      refine wpAnyH_ready (rs := [1, 5]) (by kernel_rfl) (by simp) ?_
      refine consM rfl (fun Kq hKq => ?_) (consH rfl (fun Kq hKq => ?_))
      · go_simp
        have Bw := HBu.out.trans (Below.mono B.drew HBu.out.size)
        go_at_call 72; refine (impl_sums _ _ _ _ _ _ ps ws _ (H.out.below Bw) HTr.out).mono ?_; rintro e w6 ⟨v6, rfl, o6, b6⟩
        obtain ⟨a6, c6, rfl⟩ := o6.shape
        rw [Hsl.out] at o6 ⊢
        have O6 := o6
        have L6' := World.ownsRow.lt o6
        have Z6 := b6.size
        (try simp at Z6)
        have fs8 := Cel.below fs8.drew b6
        have B : Below u0.heap.size u0 w6 := Below.trans B.drew (b6.mono (Below.size B.drew))
        have PX : Pair w6 w.heap.size (.slice aP nP cP) (.slice aW nW cW) := Pair.below PX.drew b6
        refine hKq.out _ _ ?_ (fun hHeld2 => ?_)
        · (try dsimp only); first | exact hS9 _ _ | exact hS8 _ | exact ⟨PX.c0, PX.c1⟩
        clear hKq Kq
        (try simp only [Act.put, List.setIfInBounds_toArray, List.set_cons_zero, List.set_cons_succ])
        clear hHeld1
        refine wpAnyH_ready (rs := [3, 5]) (by kernel_rfl) (by simp) ?_
        refine consM rfl (fun Kq hKq => ?_) (consH rfl (fun Kq hKq => ?_))
        · go_simp
          have Bw := HBu.out.trans (Below.mono B HBu.out.size)
          go_at_call 104; refine (impl_isEnd _ _ _ _ _ _ ps ws _ (H.out.below Bw) HTr.out.toPa).mono ?_; rintro e w7 ⟨v7, rfl, o7, b7⟩
          obtain ⟨a7, c7, rfl⟩ := o7.shape
          rw [Hel.out] at o7 ⊢
          have O6 := (O6).below b7
          have O7 := o7
          have L7' := World.ownsRow.lt o7
          have Z7 := b7.size
          (try simp at Z7)
          have fs8 := Cel.below fs8 b7
          have B : Below u0.heap.size u0 w7 := Below.trans B (b7.mono (Below.size B))
          have PX : Pair w7 w.heap.size (.slice aP nP cP) (.slice aW nW cW) := Pair.below PX b7
          refine hKq.out _ _ ?_ (fun hHeld3 => ?_)
          · (try dsimp only); first | exact hS9 _ _ | exact hS8 _ | exact ⟨PX.c0, PX.c1⟩
          clear hKq Kq
          (try simp only [Act.put, List.setIfInBounds_toArray, List.set_cons_zero, List.set_cons_succ])
          clear hHeld2
          refine wpAnyH_ready (rs := [5]) (by kernel_rfl) (by simp) ?_
          refine consH rfl (fun Kq hKq => ?_)
          go_simp
          have fs8 := Cel.below fs8 (below_new w7 (.cells #[.slice none 0 0] 63))
          have O6 := O6.below (below_new w7 (.cells #[.slice none 0 0] 63))
          have O7 := O7.below (below_new w7 (.cells #[.slice none 0 0] 63))
          have fs9 : Cel (w7.alloc (.cells #[.slice none 0 0] 63)) (w7.heap.size) (.slice none 0 0) := Cel.new _ _ _
          have B : Below u0.heap.size u0 (w7.alloc (.cells #[.slice none 0 0] 63)) := B.alloc B.size _
          have PX : Pair (w7.alloc (.cells #[.slice none 0 0] 63)) w.heap.size (.slice aP nP cP) (.slice aW nW cW) := PX.alloc _
          have hne : (u0.heap.size : Nat) ≠ w7.heap.size := by first | omega | (simp; done)
          have n8 : w.heap.size ≠ u0.heap.size := by omega
          have n9 : w.heap.size ≠ w7.heap.size := by omega
          generalize (w7.alloc (.cells #[.slice none 0 0] 63)) = wz at *
          have x0 := fs8.c
          have x1 := fs8.f
          have G9 := Cel.far fs9 (fun e => hne e.symm) (.slice a6 nP c6)
          have y0 := G9.c
          have y1 := G9.f
          have hS8 : ∀ v, (wz.setCell ⟨u0.heap.size, 0, none⟩ v).cell? ⟨w.heap.size, 0, none⟩ = some (.slice aP nP cP) ∧ (wz.setCell ⟨u0.heap.size, 0, none⟩ v).cell? ⟨w.heap.size, 1, none⟩ = some (.slice aW nW cW) := fun v => ⟨cell_far PX.c0 n8, cell_far PX.c1 n8⟩
          have hS9 : ∀ v v', ((wz.setCell ⟨u0.heap.size, 0, none⟩ v).setCell ⟨w7.heap.size, 0, none⟩ v').cell? ⟨w.heap.size, 0, none⟩ = some (.slice aP nP cP) ∧ ((wz.setCell ⟨u0.heap.size, 0, none⟩ v).setCell ⟨w7.heap.size, 0, none⟩ v').cell? ⟨w.heap.size, 1, none⟩ = some (.slice aW nW cW) := fun v v' => ⟨cell_far (cell_far PX.c0 n8) n9, cell_far (cell_far PX.c1 n8) n9⟩
          refine hKq.out _ _ ?_ (fun hHeld4 => ?_)
          · (try dsimp only); first | exact hS9 _ _ | exact hS8 _ | exact ⟨PX.c0, PX.c1⟩
          clear hKq Kq
          (try simp only [Act.put, List.setIfInBounds_toArray, List.set_cons_zero, List.set_cons_succ])
          clear hHeld3
          refine wpAnyH_ready (rs := [6]) (by kernel_rfl) (by simp) ?_
          refine consH rfl (fun Kq hKq => ?_)
          go_simp
          refine hKq.out _ _ ?_ (fun hHeld5 => ?_)
          · (try dsimp only); first | exact hS9 _ _ | exact hS8 _ | exact ⟨PX.c0, PX.c1⟩
          clear hKq Kq
          (try simp only [Act.put, List.setIfInBounds_toArray, List.set_cons_zero, List.set_cons_succ])
          clear hHeld4
          refine wpAnyH_ready (rs := [7]) (by kernel_rfl) (by simp) ?_
          refine consH rfl (fun Kq hKq => ?_)
          go_simp
          refine hKq.out _ _ ?_ (fun hHeld6 => ?_)
          · (try dsimp only); first | exact hS9 _ _ | exact hS8 _ | exact ⟨PX.c0, PX.c1⟩
          clear hKq Kq
          (try simp only [Act.put, List.setIfInBounds_toArray, List.set_cons_zero, List.set_cons_succ])
          clear hHeld5
          refine wpAnyH_done (by kernel_rfl) ?_ _
          refine NoPanic.normal ?_
          go_wp2_with fail
          go_meet
          exact lateR_mk B fs8 fs9 hne O6 O7 (fun g hg => by have h1 := L6' g hg; (try simp at h1); constructor <;> (try simp) <;> omega) (fun g hg => by have h1 := L7' g hg; (try simp at h1); constructor <;> (try simp) <;> omega) (by first | omega | (simp; omega) | simp) (by first | omega | (simp; omega) | simp)
        · go_simp
          have fs8 := Cel.below fs8 (below_new w6 (.cells #[.slice none 0 0] 63))
          have O6 := O6.below (below_new w6 (.cells #[.slice none 0 0] 63))
          have fs9 : Cel (w6.alloc (.cells #[.slice none 0 0] 63)) (w6.heap.size) (.slice none 0 0) := Cel.new _ _ _
          have B : Below u0.heap.size u0 (w6.alloc (.cells #[.slice none 0 0] 63)) := B.alloc B.size _
          have PX : Pair (w6.alloc (.cells #[.slice none 0 0] 63)) w.heap.size (.slice aP nP cP) (.slice aW nW cW) := PX.alloc _
          refine hKq.out _ _ ?_ (fun hHeld3 => ?_)
          · (try dsimp only); first | exact hS9 _ _ | exact hS8 _ | exact ⟨PX.c0, PX.c1⟩
          clear hKq Kq
          (try simp only [Act.put, List.setIfInBounds_toArray, List.set_cons_zero, List.set_cons_succ])
          clear hHeld2
          refine wpAnyH_ready (rs := [3]) (by kernel_rfl) (by simp) ?_
          refine consH rfl (fun Kq hKq => ?_)
          go_simp
          have Bw := HBu.out.trans (Below.mono B HBu.out.size)
          go_at_call 104; refine (impl_isEnd _ _ _ _ _ _ ps ws _ (H.out.below Bw) HTr.out.toPa).mono ?_; rintro e w7 ⟨v7, rfl, o7, b7⟩
          obtain ⟨a7, c7, rfl⟩ := o7.shape
          rw [Hel.out] at o7 ⊢
          have O6 := (O6).below b7
          have O7 := o7
          have L7' := World.ownsRow.lt o7
          have Z7 := b7.size
          (try simp at Z7)
          have fs8 := Cel.below fs8 b7
          have fs9 := Cel.below fs9 b7
          have B : Below u0.heap.size u0 w7 := Below.trans B (b7.mono (Below.size B))
          have PX : Pair w7 w.heap.size (.slice aP nP cP) (.slice aW nW cW) := Pair.below PX b7
          have hne : (u0.heap.size : Nat) ≠ w6.heap.size := by first | omega | (simp; done)
          have n8 : w.heap.size ≠ u0.heap.size := by omega
          have n9 : w.heap.size ≠ w6.heap.size := by omega
          have x0 := fs8.c
          have x1 := fs8.f
          have G9 := Cel.far fs9 (fun e => hne e.symm) (.slice a6 nP c6)
          have y0 := G9.c
          have y1 := G9.f
          have hS8 : ∀ v, (w7.setCell ⟨u0.heap.size, 0, none⟩ v).cell? ⟨w.heap.size, 0, none⟩ = some (.slice aP nP cP) ∧ (w7.setCell ⟨u0.heap.size, 0, none⟩ v).cell? ⟨w.heap.size, 1, none⟩ = some (.slice aW nW cW) := fun v => ⟨cell_far PX.c0 n8, cell_far PX.c1 n8⟩
          have hS9 : ∀ v v', ((w7.setCell ⟨u0.heap.size, 0, none⟩ v).setCell ⟨w6.heap.size, 0, none⟩ v').cell? ⟨w.heap.size, 0, none⟩ = some (.slice aP nP cP) ∧ ((w7.setCell ⟨u0.heap.size, 0, none⟩ v).setCell ⟨w6.heap.size, 0, none⟩ v').cell? ⟨w.heap.size, 1, none⟩ = some (.slice aW nW cW) := fun v v' => ⟨cell_far (cell_far PX.c0 n8) n9, cell_far (cell_far PX.c1 n8) n9⟩
          refine hKq.out _ _ ?_ (fun hHeld4 => ?_)
          · (try dsimp only); first | exact hS9 _ _ | exact hS8 _ | exact ⟨PX.c0, PX.c1⟩
          clear hKq Kq
          (try simp only [Act.put, List.setIfInBounds_toArray, List.set_cons_zero, List.set_cons_succ])
          clear hHeld3
          refine wpAnyH_ready (rs := [6]) (by kernel_rfl) (by simp) ?_
          refine consH rfl (fun Kq hKq => ?_)
          go_simp
          refine hKq.out _ _ ?_ (fun hHeld5 => ?_)
          · (try dsimp only); first | exact hS9 _ _ | exact hS8 _ | exact ⟨PX.c0, PX.c1⟩
          clear hKq Kq
          (try simp only [Act.put, List.setIfInBounds_toArray, List.set_cons_zero, List.set_cons_succ])
          clear hHeld4
          refine wpAnyH_ready (rs := [7]) (by kernel_rfl) (by simp) ?_
          refine consH rfl (fun Kq hKq => ?_)
          go_simp
          refine hKq.out _ _ ?_ (fun hHeld6 => ?_)
          · (try dsimp only); first | exact hS9 _ _ | exact hS8 _ | exact ⟨PX.c0, PX.c1⟩
          clear hKq Kq
          (try simp only [Act.put, List.setIfInBounds_toArray, List.set_cons_zero, List.set_cons_succ])
          clear hHeld5
          refine wpAnyH_done (by kernel_rfl) ?_ _
          refine NoPanic.normal ?_
          go_wp2_with fail
          go_meet
          exact lateR_mk B fs8 fs9 hne O6 O7 (fun g hg => by have h1 := L6' g hg; (try simp at h1); constructor <;> (try simp) <;> omega) (fun g hg => by have h1 := L7' g hg; (try simp at h1); constructor <;> (try simp) <;> omega) (by first | omega | (simp; omega) | simp) (by first | omega | (simp; omega) | simp)
      · go_simp
        have fs8 := Cel.below fs8 (below_new (u0.alloc (.cells #[.slice none 0 0] 24)) (.cells #[.slice none 0 0] 63))
        have fs9 : Cel ((u0.alloc (.cells #[.slice none 0 0] 24)).alloc (.cells #[.slice none 0 0] 63)) (u0.heap.size + 1) (.slice none 0 0) := by
          have := Cel.new (u0.alloc (.cells #[.slice none 0 0] 24)) (.slice none 0 0) 63
          simpa using this
        have B : Below u0.heap.size u0 ((u0.alloc (.cells #[.slice none 0 0] 24)).alloc (.cells #[.slice none 0 0] 63)) := B.alloc B.size _
        have PX : Pair ((u0.alloc (.cells #[.slice none 0 0] 24)).alloc (.cells #[.slice none 0 0] 63)) w.heap.size (.slice aP nP cP) (.slice aW nW cW) := PX.alloc _
        refine hKq.out _ _ ?_ (fun hHeld2 => ?_)
        · (try dsimp only); first | exact hS9 _ _ | exact hS8 _ | exact ⟨PX.c0, PX.c1⟩
        clear hKq Kq
        (try simp only [Act.put, List.setIfInBounds_toArray, List.set_cons_zero, List.set_cons_succ])
        clear hHeld1
        refine wpAnyH_ready (rs := [1]) (by kernel_rfl) (by simp) ?_
        refine consH rfl (fun Kq hKq => ?_)
        go_simp
        have Bw := HBu.out.trans (Below.mono B.drew HBu.out.size)
        go_at_call 72; refine (impl_sums _ _ _ _ _ _ ps ws _ (H.out.below Bw) HTr.out).mono ?_; rintro e w6 ⟨v6, rfl, o6, b6⟩
        obtain ⟨a6, c6, rfl⟩ := o6.shape
        rw [Hsl.out] at o6 ⊢
        have O6 := o6
        have L6' := World.ownsRow.lt o6
        have Z6 := b6.size
        (try simp at Z6)
        have fs8 := Cel.below fs8.drew b6
        have fs9 := Cel.below fs9.drew b6
        have B : Below u0.heap.size u0 w6 := Below.trans B.drew (b6.mono (Below.size B.drew))
        have PX : Pair w6 w.heap.size (.slice aP nP cP) (.slice aW nW cW) := Pair.below PX.drew b6
        refine hKq.out _ _ ?_ (fun hHeld3 => ?_)
        · (try dsimp only); first | exact hS9 _ _ | exact hS8 _ | exact ⟨PX.c0, PX.c1⟩
        clear hKq Kq
        (try simp only [Act.put, List.setIfInBounds_toArray, List.set_cons_zero, List.set_cons_succ])
        clear hHeld2
        refine wpAnyH_ready (rs := [3]) (by kernel_rfl) (by simp) ?_
        refine consH rfl (fun Kq hKq => ?_)
        go_simp
        have Bw := HBu.out.trans (Below.mono B HBu.out.size)
        go_at_call 104; refine (impl_isEnd _ _ _ _ _ _ ps ws _ (H.out.below Bw) HTr.out.toPa).mono ?_; rintro e w7 ⟨v7, rfl, o7, b7⟩
        obtain ⟨a7, c7, rfl⟩ := o7.shape
        rw [Hel.out] at o7 ⊢
        have O6 := (O6).below b7
        have O7 := o7
        have L7' := World.ownsRow.lt o7
        have Z7 := b7.size
        (try simp at Z7)
        have fs8 := Cel.below fs8 b7
        have fs9 := Cel.below fs9 b7
        have B : Below u0.heap.size u0 w7 := Below.trans B (b7.mono (Below.size B))
        have PX : Pair w7 w.heap.size (.slice aP nP cP) (.slice aW nW cW) := Pair.below PX b7
        have hne : (u0.heap.size : Nat) ≠ u0.heap.size + 1 := by first | omega | (simp; done)
        have n8 : w.heap.size ≠ u0.heap.size := by omega
        have n9 : w.heap.size ≠ u0.heap.size + 1 := by omega
        have x0 := fs8.c
        have x1 := fs8.f
        have G9 := Cel.far fs9 (fun e => hne e.symm) (.slice a6 nP c6)
        have y0 := G9.c
        have y1 := G9.f
        have hS8 : ∀ v, (w7.setCell ⟨u0.heap.size, 0, none⟩ v).cell? ⟨w.heap.size, 0, none⟩ = some (.slice aP nP cP) ∧ (w7.setCell ⟨u0.heap.size, 0, none⟩ v).cell? ⟨w.heap.size, 1, none⟩ = some (.slice aW nW cW) := fun v => ⟨cell_far PX.c0 n8, cell_far PX.c1 n8⟩
        have hS9 : ∀ v v', ((w7.setCell ⟨u0.heap.size, 0, none⟩ v).setCell ⟨u0.heap.size + 1, 0, none⟩ v').cell? ⟨w.heap.size, 0, none⟩ = some (.slice aP nP cP) ∧ ((w7.setCell ⟨u0.heap.size, 0, none⟩ v).setCell ⟨u0.heap.size + 1, 0, none⟩ v').cell? ⟨w.heap.size, 1, none⟩ = some (.slice aW nW cW) := fun v v' => ⟨cell_far (cell_far PX.c0 n8) n9, cell_far (cell_far PX.c1 n8) n9⟩
        refine hKq.out _ _ ?_ (fun hHeld4 => ?_)
        · (try dsimp only); first | exact hS9 _ _ | exact hS8 _ | exact ⟨PX.c0, PX.c1⟩
        clear hKq Kq
        (try simp only [Act.put, List.setIfInBounds_toArray, List.set_cons_zero, List.set_cons_succ])
        clear hHeld3
        refine wpAnyH_ready (rs := [6]) (by kernel_rfl) (by simp) ?_
        refine consH rfl (fun Kq hKq => ?_)
        go_simp
        refine hKq.out _ _ ?_ (fun hHeld5 => ?_)
        · (try dsimp only); first | exact hS9 _ _ | exact hS8 _ | exact ⟨PX.c0, PX.c1⟩
        clear hKq Kq
        (try simp only [Act.put, List.setIfInBounds_toArray, List.set_cons_zero, List.set_cons_succ])
        clear hHeld4
        refine wpAnyH_ready (rs := [7]) (by kernel_rfl) (by simp) ?_
        refine consH rfl (fun Kq hKq => ?_)
        go_simp
        refine hKq.out _ _ ?_ (fun hHeld6 => ?_)
        · (try dsimp only); first | exact hS9 _ _ | exact hS8 _ | exact ⟨PX.c0, PX.c1⟩
        clear hKq Kq
        (try simp only [Act.put, List.setIfInBounds_toArray, List.set_cons_zero, List.set_cons_succ])
        clear hHeld5
        refine wpAnyH_done (by kernel_rfl) ?_ _
        refine NoPanic.normal ?_
        go_wp2_with fail
        go_meet
        exact lateR_mk B fs8 fs9 hne O6 O7 (fun g hg => by have h1 := L6' g hg; (try simp at h1); constructor <;> (try simp) <;> omega) (fun g hg => by have h1 := L7' g hg; (try simp at h1); constructor <;> (try simp) <;> omega) (by first | omega | (simp; omega) | simp) (by first | omega | (simp; omega) | simp)
    · go_simp
      have fs9 : Cel (u0.alloc (.cells #[.slice none 0 0] 63)) (u0.heap.size) (.slice none 0 0) := Cel.new _ _ _
      have B : Below u0.heap.size u0 (u0.alloc (.cells #[.slice none 0 0] 63)) := B.alloc B.size _
      have PX : Pair (u0.alloc (.cells #[.slice none 0 0] 63)) w.heap.size (.slice aP nP cP) (.slice aW nW cW) := PX.alloc _
      refine hKq.out _ _ ?_ (fun hHeld1 => ?_)
      · (try dsimp only); first | exact hS9 _ _ | exact hS8 _ | exact ⟨PX.c0, PX.c1⟩
      clear hKq Kq
      (try simp only [Act.put, List.setIfInBounds_toArray, List.set_cons_zero, List.set_cons_succ])
      clear hHeld0
      refine wpAnyH_ready (rs := [1, 4]) (by kernel_rfl) (by simp) ?_
      refine consM rfl (fun Kq hKq => ?_) (consH rfl (fun Kq hKq => ?_))
      · go_simp
        have Bw := HBu.out.trans (Below.mono B.drew HBu.out.size)
        go_at_call 72; refine (impl_sums _ _ _ _ _ _ ps ws _ (H.out.below Bw) HTr.out).mono ?_; rintro e w6 ⟨v6, rfl, o6, b6⟩
        obtain ⟨a6, c6, rfl⟩ := o6.shape
        rw [Hsl.out] at o6 ⊢
        have O6 := o6
        have L6' := World.ownsRow.lt o6
        have Z6 := b6.size
        (try simp at Z6)
        have fs9 := Cel.below fs9.drew b6
        have B : Below u0.heap.size u0 w6 := Below.trans B.drew (b6.mono (Below.size B.drew))
        have PX : Pair w6 w.heap.size (.slice aP nP cP) (.slice aW nW cW) := Pair.below PX.drew b6
        refine hKq.out _ _ ?_ (fun hHeld2 => ?_)
        · (try dsimp only); first | exact hS9 _ _ | exact hS8 _ | exact ⟨PX.c0, PX.c1⟩
        clear hKq Kq
        (try simp only [Act.put, List.setIfInBounds_toArray, List.set_cons_zero, List.set_cons_succ])
        clear hHeld1
        refine wpAnyH_ready (rs := [3, 4]) (by kernel_rfl) (by simp) ?_
        refine consM rfl (fun Kq hKq => ?_) (consH rfl (fun Kq hKq => ?_))
        · go_simp
          have Bw := HBu.out.trans (Below.mono B HBu.out.size)
          go_at_call 104; refine (impl_isEnd _ _ _ _ _ _ ps ws _ (H.out.below Bw) HTr.out.toPa).mono ?_; rintro e w7 ⟨v7, rfl, o7, b7⟩
          obtain ⟨a7, c7, rfl⟩ := o7.shape
          rw [Hel.out] at o7 ⊢
          have O6 := (O6).below b7
          have O7 := o7
          have L7' := World.ownsRow.lt o7
          have Z7 := b7.size
          (try simp at Z7)
          have fs9 := Cel.below fs9 b7
          have B : Below u0.heap.size u0 w7 := Below.trans B (b7.mono (Below.size B))
          have PX : Pair w7 w.heap.size (.slice aP nP cP) (.slice aW nW cW) := Pair.below PX b7
          refine hKq.out _ _ ?_ (fun hHeld3 => ?_)
          · (try dsimp only); first | exact hS9 _ _ | exact hS8 _ | exact ⟨PX.c0, PX.c1⟩
          clear hKq Kq
          (try simp only [Act.put, List.setIfInBounds_toArray, List.set_cons_zero, List.set_cons_succ])
          clear hHeld2
          refine wpAnyH_ready (rs := [4]) (by kernel_rfl) (by simp) ?_
          refine consH rfl (fun Kq hKq => ?_)
          go_simp
          have fs9 := Cel.below fs9 (below_new w7 (.cells #[.slice none 0 0] 24))
          have O6 := O6.below (below_new w7 (.cells #[.slice none 0 0] 24))
          have O7 := O7.below (below_new w7 (.cells #[.slice none 0 0] 24))
          have fs8 : Cel (w7.alloc (.cells #[.slice none 0 0] 24)) (w7.heap.size) (.slice none 0 0) := Cel.new _ _ _
          have B : Below u0.heap.size u0 (w7.alloc (.cells #[.slice none 0 0] 24)) := B.alloc B.size _
          have PX : Pair (w7.alloc (.cells #[.slice none 0 0] 24)) w.heap.size (.slice aP nP cP) (.slice aW nW cW) := PX.alloc _
          have hne : (w7.heap.size : Nat) ≠ u0.heap.size := by first | omega | (simp; done)
          have n8 : w.heap.size ≠ w7.heap.size := by omega
          have n9 : w.heap.size ≠ u0.heap.size := by omega
          generalize (w7.alloc (.cells #[.slice none 0 0] 24)) = wz at *
          have x0 := fs8.c
          have x1 := fs8.f
          have G9 := Cel.far fs9 (fun e => hne e.symm) (.slice a6 nP c6)
          have y0 := G9.c
          have y1 := G9.f
          have hS8 : ∀ v, (wz.setCell ⟨w7.heap.size, 0, none⟩ v).cell? ⟨w.heap.size, 0, none⟩ = some (.slice aP nP cP) ∧ (wz.setCell ⟨w7.heap.size, 0, none⟩ v).cell? ⟨w.heap.size, 1, none⟩ = some (.slice aW nW cW) := fun v => ⟨cell_far PX.c0 n8, cell_far PX.c1 n8⟩
          have hS9 : ∀ v v', ((wz.setCell ⟨w7.heap.size, 0, none⟩ v).setCell ⟨u0.heap.size, 0, none⟩ v').cell? ⟨w.heap.size, 0, none⟩ = some (.slice aP nP cP) ∧ ((wz.setCell ⟨w7.heap.size, 0, none⟩ v).setCell ⟨u0.heap.size, 0, none⟩ v').cell? ⟨w.heap.size, 1, none⟩ = some (.slice aW nW cW) := fun v v' => ⟨cell_far (cell_far PX.c0 n8) n9, cell_far (cell_far PX.c1 n8) n9⟩
          refine hKq.out _ _ ?_ (fun hHeld4 => ?_)
          · (try dsimp only); first | exact hS9 _ _ | exact hS8 _ | exact ⟨PX.c0, PX.c1⟩
          clear hKq Kq
          (try simp only [Act.put, List.setIfInBounds_toArray, List.set_cons_zero, List.set_cons_succ])
          clear hHeld3
          refine wpAnyH_ready (rs := [6]) (by kernel_rfl) (by simp) ?_
          refine consH rfl (fun Kq hKq => ?_)
          go_simp
          refine hKq.out _ _ ?_ (fun hHeld5 => ?_)
          · (try dsimp only); first | exact hS9 _ _ | exact hS8 _ | exact ⟨PX.c0, PX.c1⟩
          clear hKq Kq
          (try simp only [Act.put, List.setIfInBounds_toArray, List.set_cons_zero, List.set_cons_succ])
          clear hHeld4
          refine wpAnyH_ready (rs := [7]) (by kernel_rfl) (by simp) ?_
          refine consH rfl (fun Kq hKq => ?_)
          go_simp
          refine hKq.out _ _ ?_ (fun hHeld6 => ?_)
          · (try dsimp only); first | exact hS9 _ _ | exact hS8 _ | exact ⟨PX.c0, PX.c1⟩
          clear hKq Kq
          (try simp only [Act.put, List.setIfInBounds_toArray, List.set_cons_zero, List.set_cons_succ])
          clear hHeld5
          refine wpAnyH_done (by kernel_rfl) ?_ _
          refine NoPanic.normal ?_
          go_wp2_with fail
          go_meet
          exact lateR_mk B fs8 fs9 hne O6 O7 (fun g hg => by have h1 := L6' g hg; (try simp at h1); constructor <;> (try simp) <;> omega) (fun g hg => by have h1 := L7' g hg; (try simp at h1); constructor <;> (try simp) <;> omega) (by first | omega | (simp; omega) | simp) (by first | omega | (simp; omega) | simp)
        · go_simp
          have fs9 := Cel.below fs9 (below_new w6 (.cells #[.slice none 0 0] 24))
          have O6 := O6.below (below_new w6 (.cells #[.slice none 0 0] 24))
          have fs8 : Cel (w6.alloc (.cells #[.slice none 0 0] 24)) (w6.heap.size) (.slice none 0 0) := Cel.new _ _ _
          have B : Below u0.heap.size u0 (w6.alloc (.cells #[.slice none 0 0] 24)) := B.alloc B.size _
          have PX : Pair (w6.alloc (.cells #[.slice none 0 0] 24)) w.heap.size (.slice aP nP cP) (.slice aW nW cW) := PX.alloc _
          refine hKq.out _ _ ?_ (fun hHeld3 => ?_)
          · (try dsimp only); first | exact hS9 _ _ | exact hS8 _ | exact ⟨PX.c0, PX.c1⟩
          clear hKq Kq
          (try simp only [Act.put, List.setIfInBounds_toArray, List.set_cons_zero, List.set_cons_succ])
          clear hHeld2
          refine wpAnyH_ready (rs := [3]) (by kernel_rfl) (by simp) ?_
          refine consH rfl (fun Kq hKq => ?_)
          go_simp
          have Bw := HBu.out.trans (Below.mono B HBu.out.size)
          go_at_call 104; refine (impl_isEnd _ _ _ _ _ _ ps ws _ (H.out.below Bw) HTr.out.toPa).mono ?_; rintro e w7 ⟨v7, rfl, o7, b7⟩
          obtain ⟨a7, c7, rfl⟩ := o7.shape
          rw [Hel.out] at o7 ⊢
          have O6 := (O6).below b7
          have O7 := o7
          have L7' := World.ownsRow.lt o7
          have Z7 := b7.size
          (try simp at Z7)
          have fs8 := Cel.below fs8 b7
          have fs9 := Cel.below fs9 b7
          have B : Below u0.heap.size u0 w7 := Below.trans B (b7.mono (Below.size B))
          have PX : Pair w7 w.heap.size (.slice aP nP cP) (.slice aW nW cW) := Pair.below PX b7
          have hne : (w6.heap.size : Nat) ≠ u0.heap.size := by first | omega | (simp; done)
          have n8 : w.heap.size ≠ w6.heap.size := by omega
          have n9 : w.heap.size ≠ u0.heap.size := by omega
          have x0 := fs8.c
          have x1 := fs8.f
          have G9 := Cel.far fs9 (fun e => hne e.symm) (.slice a6 nP c6)
          have y0 := G9.c
          have y1 := G9.f
          have hS8 : ∀ v, (w7.setCell ⟨w6.heap.size, 0, none⟩ v).cell? ⟨w.heap.size, 0, none⟩ = some (.slice aP nP cP) ∧ (w7.setCell ⟨w6.heap.size, 0, none⟩ v).cell? ⟨w.heap.size, 1, none⟩ = some (.slice aW nW cW) := fun v => ⟨cell_far PX.c0 n8, cell_far PX.c1 n8⟩
          have hS9 : ∀ v v', ((w7.setCell ⟨w6.heap.size, 0, none⟩ v).setCell ⟨u0.heap.size, 0, none⟩ v').cell? ⟨w.heap.size, 0, none⟩ = some (.slice aP nP cP) ∧ ((w7.setCell ⟨w6.heap.size, 0, none⟩ v).setCell ⟨u0.heap.size, 0, none⟩ v').cell? ⟨w.heap.size, 1, none⟩ = some (.slice aW nW cW) := fun v v' => ⟨cell_far (cell_far PX.c0 n8) n9, cell_far (cell_far PX.c1 n8) n9⟩
          refine hKq.out _ _ ?_ (fun hHeld4 => ?_)
          · (try dsimp only); first | exact hS9 _ _ | exact hS8 _ | exact ⟨PX.c0, PX.c1⟩
          clear hKq Kq
          (try simp only [Act.put, List.setIfInBounds_toArray, List.set_cons_zero, List.set_cons_succ])
          clear hHeld3
          refine wpAnyH_ready (rs := [6]) (by kernel_rfl) (by simp) ?_
          refine consH rfl (fun Kq hKq => ?_)
          go_simp
          refine hKq.out _ _ ?_ (fun hHeld5 => ?_)
          · (try dsimp only); first | exact hS9 _ _ | exact hS8 _ | exact ⟨PX.c0, PX.c1⟩
          clear hKq Kq
          (try simp only [Act.put, List.setIfInBounds_toArray, List.set_cons_zero, List.set_cons_succ])
          clear hHeld4
          refine wpAnyH_ready (rs := [7]) (by kernel_rfl) (by simp) ?_
          refine consH rfl (fun Kq hKq => ?_)
          go_simp
          refine hKq.out _ _ ?_ (fun hHeld6 => ?_)
          · (try dsimp only); first | exact hS9 _ _ | exact hS8 _ | exact ⟨PX.c0, PX.c1⟩
          clear hKq Kq
          (try simp only [Act.put, List.setIfInBounds_toArray, List.set_cons_zero, List.set_cons_succ])
          clear hHeld5
          refine wpAnyH_done (by kernel_rfl) ?_ _
          refine NoPanic.normal ?_
          go_wp2_with fail
          go_meet
          exact lateR_mk B fs8 fs9 hne O6 O7 (fun g hg => by have h1 := L6' g hg; (try simp at h1); constructor <;> (try simp) <;> omega) (fun g hg => by have h1 := L7' g hg; (try simp at h1); constructor <;> (try simp) <;> omega) (by first | omega | (simp; omega) | simp) (by first | omega | (simp; omega) | simp)
      · go_simp
        have fs9 := Cel.below fs9 (below_new (u0.alloc (.cells #[.slice none 0 0] 63)) (.cells #[.slice none 0 0] 24))
        have fs8 : Cel ((u0.alloc (.cells #[.slice none 0 0] 63)).alloc (.cells #[.slice none 0 0] 24)) (u0.heap.size + 1) (.slice none 0 0) := by
          have := Cel.new (u0.alloc (.cells #[.slice none 0 0] 63)) (.slice none 0 0) 24
          simpa using this
        have B : Below u0.heap.size u0 ((u0.alloc (.cells #[.slice none 0 0] 63)).alloc (.cells #[.slice none 0 0] 24)) := B.alloc B.size _
        have PX : Pair ((u0.alloc (.cells #[.slice none 0 0] 63)).alloc (.cells #[.slice none 0 0] 24)) w.heap.size (.slice aP nP cP) (.slice aW nW cW) := PX.alloc _
        refine hKq.out _ _ ?_ (fun hHeld2 => ?_)
        · (try dsimp only); first | exact hS9 _ _ | exact hS8 _ | exact ⟨PX.c0, PX.c1⟩
        clear hKq Kq
        (try simp only [Act.put, List.setIfInBounds_toArray, List.set_cons_zero, List.set_cons_succ])
        clear hHeld1
        refine wpAnyH_ready (rs := [1]) (by kernel_rfl) (by simp) ?_
        refine consH rfl (fun Kq hKq => ?_)
        go_simp
        have Bw := HBu.out.trans (Below.mono B.drew HBu.out.size)
        go_at_call 72; refine (impl_sums _ _ _ _ _ _ ps ws _ (H.out.below Bw) HTr.out).mono ?_; rintro e w6 ⟨v6, rfl, o6, b6⟩
        obtain ⟨a6, c6, rfl⟩ := o6.shape
        rw [Hsl.out] at o6 ⊢
        have O6 := o6
        have L6' := World.ownsRow.lt o6
        have Z6 := b6.size
        (try simp at Z6)
        have fs8 := Cel.below fs8.drew b6
        have fs9 := Cel.below fs9.drew b6
        have B : Below u0.heap.size u0 w6 := Below.trans B.drew (b6.mono (Below.size B.drew))
        have PX : Pair w6 w.heap.size (.slice aP nP cP) (.slice aW nW cW) := Pair.below PX.drew b6
        refine hKq.out _ _ ?_ (fun hHeld3 => ?_)
        · (try dsimp only); first | exact hS9 _ _ | exact hS8 _ | exact ⟨PX.c0, PX.c1⟩
        clear hKq Kq
        (try simp only [Act.put, List.setIfInBounds_toArray, List.set_cons_zero, List.set_cons_succ])
        clear hHeld2
        refine wpAnyH_ready (rs := [3]) (by kernel_rfl) (by simp) ?_
        refine consH rfl (fun Kq hKq => ?_)
        go_simp
        have Bw := HBu.out.trans (Below.mono B HBu.out.size)
        go_at_call 104; refine (impl_isEnd _ _ _ _ _ _ ps ws _ (H.out.below Bw) HTr.out.toPa).mono ?_; rintro e w7 ⟨v7, rfl, o7, b7⟩
        obtain ⟨a7, c7, rfl⟩ := o7.shape
        rw [Hel.out] at o7 ⊢
        have O6 := (O6).below b7
        have O7 := o7
        have L7' := World.ownsRow.lt o7
        have Z7 := b7.size
        (try simp at Z7)
        have fs8 := Cel.below fs8 b7
        have fs9 := Cel.below fs9 b7
        have B : Below u0.heap.size u0 w7 := Below.trans B (b7.mono (Below.size B))
        have PX : Pair w7 w.heap.size (.slice aP nP cP) (.slice aW nW cW) := Pair.below PX b7
        have hne : (u0.heap.size + 1 : Nat) ≠ u0.heap.size := by first | omega | (simp; done)
        have n8 : w.heap.size ≠ u0.heap.size + 1 := by omega
        have n9 : w.heap.size ≠ u0.heap.size := by omega
        have x0 := fs8.c
        have x1 := fs8.f
        have G9 := Cel.far fs9 (fun e => hne e.symm) (.slice a6 nP c6)
        have y0 := G9.c
        have y1 := G9.f
        have hS8 : ∀ v, (w7.setCell ⟨u0.heap.size + 1, 0, none⟩ v).cell? ⟨w.heap.size, 0, none⟩ = some (.slice aP nP cP) ∧ (w7.setCell ⟨u0.heap.size + 1, 0, none⟩ v).cell? ⟨w.heap.size, 1, none⟩ = some (.slice aW nW cW) := fun v => ⟨cell_far PX.c0 n8, cell_far PX.c1 n8⟩
        have hS9 : ∀ v v', ((w7.setCell ⟨u0.heap.size + 1, 0, none⟩ v).setCell ⟨u0.heap.size, 0, none⟩ v').cell? ⟨w.heap.size, 0, none⟩ = some (.slice aP nP cP) ∧ ((w7.setCell ⟨u0.heap.size + 1, 0, none⟩ v).setCell ⟨u0.heap.size, 0, none⟩ v').cell? ⟨w.heap.size, 1, none⟩ = some (.slice aW nW cW) := fun v v' => ⟨cell_far (cell_far PX.c0 n8) n9, cell_far (cell_far PX.c1 n8) n9⟩
        refine hKq.out _ _ ?_ (fun hHeld4 => ?_)
        · (try dsimp only); first | exact hS9 _ _ | exact hS8 _ | exact ⟨PX.c0, PX.c1⟩
        clear hKq Kq
        (try simp only [Act.put, List.setIfInBounds_toArray, List.set_cons_zero, List.set_cons_succ])
        clear hHeld3
        refine wpAnyH_ready (rs := [6]) (by kernel_rfl) (by simp) ?_
        refine consH rfl (fun Kq hKq => ?_)
        go_simp
        refine hKq.out _ _ ?_ (fun hHeld5 => ?_)
        · (try dsimp only); first | exact hS9 _ _ | exact hS8 _ | exact ⟨PX.c0, PX.c1⟩
        clear hKq Kq
        (try simp only [Act.put, List.setIfInBounds_toArray, List.set_cons_zero, List.set_cons_succ])
        clear hHeld4
        refine wpAnyH_ready (rs := [7]) (by kernel_rfl) (by simp) ?_
        refine consH rfl (fun Kq hKq => ?_)
        go_simp
        refine hKq.out _ _ ?_ (fun hHeld6 => ?_)
        · (try dsimp only); first | exact hS9 _ _ | exact hS8 _ | exact ⟨PX.c0, PX.c1⟩
        clear hKq Kq
        (try simp only [Act.put, List.setIfInBounds_toArray, List.set_cons_zero, List.set_cons_succ])
        clear hHeld5
        refine wpAnyH_done (by kernel_rfl) ?_ _
        refine NoPanic.normal ?_
        go_wp2_with fail
        go_meet
        exact lateR_mk B fs8 fs9 hne O6 O7 (fun g hg => by have h1 := L6' g hg; (try simp at h1); constructor <;> (try simp) <;> omega) (fun g hg => by have h1 := L7' g hg; (try simp at h1); constructor <;> (try simp) <;> omega) (by first | omega | (simp; omega) | simp) (by first | omega | (simp; omega) | simp)
  case rest =>
    obtain ⟨hB, g8, g9, a6, c6, a7, c7, rfl, rfl, x8, x9, i6, i7⟩ := hcut
    have hb17 := hb16.trans (hB.mono hb16.size)
    have hP8 := HP6.out.below hB
    have hC8 := Lib.hid (cell_up hB HC6.out)
    have hA8 := Lib.hid (cell_up hB HA6.out)
    have X8 := Lib.hid x8
    have X9 := Lib.hid x9
    have I6 := Lib.hid i6
    have I7 := Lib.hid i7
    have G1 := Lib.hid (HG1.out.below hB)
    have e0 := hP8.c0
    have e1 := hP8.c1
    clear x8 x9 i6 i7 HP6 HC6 HA6 HG1 hB
    go_wp2_with fail
    refine (impl_firsts _ _ _ _ _ _ ps ws 105 #[.pointer (some ⟨g9, 0, none⟩), .pointer (some ⟨g8, 0, none⟩), .pointer (some ⟨w.heap.size + 1, 0, none⟩), .pointer (some ⟨w5.heap.size, 0, none⟩)] (lateB ps ws l) _ (H.out.below hb17) HTr.out.toPa cf_LatestRule ?_).mono ?_
    · intro x W hx hW
      have hbW := hb17.trans (hW.mono hb17.size)
      have hxl : x < ps.length := by have := Hl.out; omega
      have := cl_LatestRule x nP _ _ _ _ a7 a6 aL a2 c7 c6 cL c2 (endsB ps) (sums ps ws) l (onW ps ws l 24) W hx (cell_up hW X9.out) (cell_up hW X8.out) (cell_up hW hC8.out) (cell_up hW hA8.out) (I7.out.below hW) (I6.out.below hW) (HL.out.below hbW) (G1.out.below hW) (sums_bd HTr.out x) (Hpp.out.2 x)
      rw [nth_endsB hxl, on_capW HTr.out hxl] at this
      exact this
    · rintro e wq ⟨vq, rfl, oq, bq⟩
      have OQ := Lib.hid oq
      clear oq
      go_wp2_with fail
      go_ret2
      exact ⟨_, by rw [Hpays.out]; rfl, by rw [lateV_yes Hpays.out]; exact OQ.out.mono hb17.size, hb17.trans (bq.mono hb17.size)⟩
end Go.Proofs.YtnbomleieianoaaGreat

/- Contracts: the envelope of each node, by the program and by the reference. -/
namespace Go.Proofs.YtnbomleieianoaaGreat
open Go.RowKit

/-- The envelopes. -/
def envL (ps ws l : List Int) : List (Int × Int) := (List.range ps.length).map fun x => (nm (nth (capW ps ws l) x) (nth (sums ps ws) x), dn (nth (capW ps ws l) x) (nth (sums ps ws) x))
theorem envL_length (ps ws l : List Int) : (envL ps ws l).length = ps.length := by simp [envL]
theorem envL_take (ps ws l : List Int) {x : Nat} (hx : x < ps.length) : (envL ps ws l).take (x + 1) = (envL ps ws l).take x ++ [(nm (nth (capW ps ws l) x) (nth (sums ps ws) x), dn (nth (capW ps ws l) x) (nth (sums ps ws) x))] := by
  rw [List.take_succ_eq_append_getElem (by rw [envL_length]; exact hx)]
  simp [envL]
def envV (ps ws l : List Int) : List (Int × Int) := if paysB ps ws l then envL ps ws l else []
theorem envV_no {ps ws l : List Int} (h : paysB ps ws l = false) : envV ps ws l = [] := by rw [envV, h]; rfl
theorem envV_yes {ps ws l : List Int} (h : paysB ps ws l = true) : envV ps ws l = envL ps ws l := by rw [envV, h]; rfl
theorem envV_len {ps ws l : List Int} : (envV ps ws l).length ≤ 24 := by
  cases h : paysB ps ws l
  · rw [envV_no h]; simp
  · rw [envV_yes h, envL_length]; exact (paysB_t h).1.n24
set_option maxRecDepth 100000 in
set_option maxHeartbeats 2000000 in
theorem impl_EnvelopeOf (aP : Option Addr) (nP cP : Nat) (aW : Option Addr) (nW cW : Nat) (ps ws : List Int) (aL : Option Addr) (nL cL : Nat) (l : List Int) (w : World) (h : Tre w aP nP cP aW nW cW ps ws) (hL : Ints w aL nL l) (_hLc : aL = none → cL = 0) (hn : nL ≤ 1048576) :
    Calls Tryz.prog 33 #[.agg #[.slice aP nP cP, .slice aW nW cW], .slice aL nL cL] w fun e w' => ∃ v, e = .returned (.tuple #[v, .bool (paysB ps ws l)]) ∧ Fr.Own w' w.heap.size v (envV ps ws l) ∧ Below w.heap.size w w' := by
  have hl := h.p.1
  have hlw := h.w.1
  have hpn := h.pn
  have hwn := h.wn
  have hb1 := below_new w (.cells #[.slice aP nP cP, .slice aW nW cW] 26)
  have hP1 := Lib.hid (Pair.new w (.slice aP nP cP) (.slice aW nW cW) 26)
  have H := Lib.hid h
  have Hl := Lib.hid hl
  have Hlw := Lib.hid hlw
  clear h hl hlw
  have HL := Lib.hid hL
  have hll := Lib.hid hL.1
  clear hL
  go_enter Tryz.func33, Tryz.ntmps33
  have c0 := hP1.out.c0
  have c1 := hP1.out.c1
  go_wp2_with fail
  generalize (w.alloc (.cells #[.slice aP nP cP, .slice aW nW cW] 26)) = w2 at *
  refine (impl_IsTree _ _ _ _ _ _ ps ws _ (H.out.below hb1)).mono ?_
  rintro e w3 ⟨rfl, hb3⟩
  have HP3 := Lib.hid (hP1.out.below hb3)
  have d0 := HP3.out.c0
  have d1 := HP3.out.c1
  have hb13 := hb1.trans (hb3.mono hb1.size)
  clear c0 c1 hb3 hP1
  cases hT : treeB ps ws
  · have Hv := Lib.hid (pays_no1 (l := l) hT)
    clear hT
    go_wp2_with fail
    go_ret2
    exact ⟨_, by rw [Hv.out]; rfl, by rw [envV_no Hv.out]; exact Fr.Own.nil _ _, hb13⟩
  have HT := Lib.hid hT
  clear hT
  go_wp2_with fail
  refine (impl_isProcess _ _ _ _ _ _ ps ws _ _ _ l _ (H.out.below hb13) (HL.out.below hb13) hn).mono ?_
  rintro e w4 ⟨rfl, hb4⟩
  have HP4 := Lib.hid (HP3.out.below hb4)
  have e0 := HP4.out.c0
  have e1 := HP4.out.c1
  have hb14 := hb13.trans (hb4.mono hb13.size)
  clear d0 d1 hb4 HP3
  cases hp : procB ps.length l
  · have Hv := Lib.hid (pays_no2 (ws := ws) hp)
    clear hp
    go_wp2_with fail
    go_ret2
    exact ⟨_, by rw [Hv.out]; rfl, by rw [envV_no Hv.out]; exact Fr.Own.nil _ _, hb14⟩
  have Hpays := Lib.hid (pays_both HT.out hp)
  obtain ⟨hTr, _, _, hleq, hlb⟩ := paysB_t Hpays.out
  have hnL : nP = nL := by have := hll.out; have := Hl.out; omega
  have HTT := Lib.hid hTr
  have Hlb := Lib.hid hlb
  have hn24 := hTr.n24
  have hnP : 1 ≤ nP ∧ nP ≤ 24 := by have := hTr.n1; have := Hl.out; omega
  have Hval := Lib.hid (envV_yes Hpays.out)
  clear hp hTr hleq hlb hn24 hn hpn hwn
  subst hnL
  have Hsl : Hid ((sums ps ws).length = nP) := Lib.hid (by rw [sums_length HTT.out]; exact Hl.out)
  have hnil := Fr.own_nil0 w4
  have hnew := below_new w4 (.cells #[] 29)
  have HP4' := Lib.hid (HP4.out.below hnew)
  have hb14' := hb14.trans (hnew.mono hb14.size)
  have f0 := HP4'.out.c0
  have f1 := HP4'.out.c1
  have hw4 : w.heap.size + 1 ≤ w4.heap.size := HP4.out.lt
  have hw4' : w4.heap.size ≤ (w4.alloc (.cells #[] 29)).heap.size := hnew.size
  have hw4n : (w4.alloc (.cells #[] 29)).heap.size = w4.heap.size + 1 := by simp
  clear hb14 HP4 hnew
  have hnil' := Lib.hid hnil
  clear hnil
  go_wp2_with fail
  generalize w4.alloc (.cells #[] 29) = w5 at *
  refine (impl_sums _ _ _ _ _ _ ps ws _ (H.out.below hb14') HTT.out).mono ?_
  rintro e w6 ⟨v6, rfl, ho6, hb6⟩
  obtain ⟨a6, c6, rfl⟩ := ho6.shape
  rw [Hsl.out] at ho6 ⊢
  have G6 := Lib.hid ho6.ints
  have HP6 := Lib.hid (HP4'.out.below hb6)
  have HO6 := Lib.hid (hnil'.out.below hb6)
  have hb16 := hb14'.trans (hb6.mono hb14'.size)
  generalize hg5 : w4.heap.size = g5 at *
  have Hap6 : Hid (Apart a6 (Value.slice (some ⟨g5, 0, none⟩) 0 0)) := Lib.hid fun p hp e => by
    obtain ⟨g, cap, he, hg, _⟩ := ho6.form (by rw [sums_length HTT.out]; have := Hl.out; omega)
    cases he
    cases hp
    simp [Value.ownBlock] at e
    omega
  have hs6 : w5.heap.size ≤ w6.heap.size := hb6.size
  clear ho6 hb6 hnil' HP4' hb14' f0 f1 e0 e1 hg5
  have f0 := HP6.out.c0
  have f1 := HP6.out.c1
  go_wp2_with fail
  refine (impl_worth _ _ _ _ _ _ ps ws _ _ _ l _ 24 _ (H.out.below hb16) HTT.out (HL.out.below hb16) rfl Hlb.out (.inl ⟨by omega, rfl⟩)).mono ?_
  rintro e w7 ⟨a1, k1, a2, k2, rfl, o1, o2, b7⟩
  have hb17 := hb16.trans (b7.mono hb16.size)
  have G7 := Lib.hid o1.ints
  have G6' := Lib.hid (G6.out.below b7)
  have HP7 := Lib.hid (HP6.out.below b7)
  have HO7 := Lib.hid (HO6.out.below b7)
  have Hap7 : Hid (Apart a1 (Value.slice (some ⟨g5, 0, none⟩) 0 0)) := Lib.hid fun p hp e => by
    obtain ⟨g, cap, he, hg, _⟩ := o1.form (by rw [worthL_length]; have := Hl.out; omega)
    cases he
    cases hp
    simp [Value.ownBlock] at e
    omega
  have hs7 : g5 ≤ w7.heap.size := by have := b7.size; omega
  have Hcl : Hid ((capW ps ws l).length = nP) := Lib.hid (by rw [capW_length]; exact Hl.out)
  have Hca := Lib.hid (worth_abs HTT.out Hlb.out 24)
  clear o1 o2 b7 G6 HP6 HO6 hb16 f0 f1 hs6
  go_wp2_with fail
  go_loopw [6, 34] (fun v6 v34 wr => ∃ x : Nat, x ≤ nP ∧ v34 = .int .i64 (x : Int) ∧ Fr.Own wr g5 v6 ((envL ps ws l).take x) ∧ Ints wr a6 nP (sums ps ws) ∧ Ints wr a1 nP (capW ps ws l) ∧ Apart a6 v6 ∧ Apart a1 v6 ∧ Pair wr w.heap.size (.slice aP nP cP) (.slice aW nW cW) ∧ Below w.heap.size w wr ∧ g5 ≤ wr.heap.size) (fun _ v34 _ => nP - (intOf v34).toNat)
  case atStart => exact ⟨0, Nat.zero_le _, rfl, by rw [List.take_zero]; exact HO7.out, G6'.out, G7.out, Hap6.out, Hap7.out, HP7.out, hb17, hs7⟩
  case round =>
    clear HO7 G6' G7 Hap6 Hap7 HP7 hb17 hs7
    obtain ⟨x, hx, rfl, hou, h6, h7, p6, p7, hP, hbel, hsz⟩ := hrel
    have HP := Lib.hid hP
    have HO := Lib.hid hou
    have G6 := Lib.hid h6
    have G7 := Lib.hid h7
    have P6 := Lib.hid p6
    have P7 := Lib.hid p7
    clear hP hou h6 h7 p6 p7
    by_cases hlt : (x : Int) < nP
    · obtain ⟨b6, o6, rfl, hc6⟩ := G6.out.at (i := x) (Below.refl _ _) (by omega)
      obtain ⟨b7, o7, rfl, hc7⟩ := G7.out.at (i := x) (Below.refl _ _) (by omega)
      have Hml := Lib.hid (envL_take ps ws l (x := x) (by have := Hl.out; omega))
      have hol : ((envL ps ws l).take x).length ≤ 24 := by rw [List.length_take]; omega
      have hs1 := sums_pos HTT.out x (by have := Hl.out; omega)
      have hs2 := (sums_bd HTT.out x).2
      have hcx : -479520 ≤ nth (capW ps ws l) x ∧ nth (capW ps ws l) x ≤ 479520 := Hca.out x
      have HcL : Hid (∀ W : World, Calls Tryz.prog 73 #[.int .i64 (nth (capW ps ws l) x), .int .i64 (nth (sums ps ws) x)] W fun e w' => e = .returned (.tuple #[.agg #[.int .i64 (nm (nth (capW ps ws l) x) (nth (sums ps ws) x)), .int .i64 (dn (nth (capW ps ws l) x) (nth (sums ps ws) x))], .bool true]) ∧ Below W.heap.size W w') := Lib.hid fun W => impl_lowest_s _ _ W (by omega) (by omega)
      clear hs1 hs2 hcx
      generalize nm (nth (capW ps ws l) x) (nth (sums ps ws) x) = gn at *
      generalize dn (nth (capW ps ws l) x) (nth (sums ps ws) x) = gd at *
      generalize nth (capW ps ws l) x = cx at *
      generalize nth (sums ps ws) x = sx at *
      generalize (envL ps ws l).take x = acc at *
      have k2 : (0 : Int) ≤ (x : Int) := by omega
      obtain ⟨wo, rfl⟩ : ∃ wo, wo = wr := ⟨_, rfl⟩
      go_upto_region 9 with (go_at_call 73; refine (HcL.out _).mono ?_; rintro e w7 ⟨rfl, b7⟩
                             have q := Pair.new w7 (.int .i64 0) (.int .i64 0) 29
                             have q0 := q.c0
                             have q1 := q.c1
                             have q2 := q.f0
                             have q3 := q.f1)
      have hb17 := hbel.trans (b7.mono hbel.size)
      have hnew := below_new w7 (.cells #[.int .i64 gn, .int .i64 gd] 29)
      have HF := Lib.hid (Pair.new w7 (.int .i64 gn) (.int .i64 gd) 29)
      have G6n := Lib.hid ((G6.out.below b7).below hnew)
      have G7n := Lib.hid ((G7.out.below b7).below hnew)
      have HP8 := Lib.hid ((HP.out.below b7).below hnew)
      have HO8 := Lib.hid ((HO.out.below b7).below hnew)
      have hb18 := hb17.trans (hnew.mono hb17.size)
      have hsz8 : g5 ≤ (w7.alloc (.cells #[.int .i64 gn, .int .i64 gd] 29)).heap.size := Nat.le_trans hsz (Nat.le_trans b7.size hnew.size)
      clear q q0 q1 q2 q3 b7 hnew hb17 hc6 hc7 HP HO G6 G7
      generalize w7.alloc (.cells #[.int .i64 gn, .int .i64 gd] 29) = w8 at *
      have z0 := HF.out.c0
      have z1 := HF.out.c1
      have hgw : w.heap.size ≤ g5 := by omega
      go_wp2_with (at_builtin; refine Fr.wp_push2 _ _ rfl rfl g5 _ _ rfl HO8.out rfl (by omega) hsz8 ?_; intro v' w' ho hb hm)
      have h6' := G6n.out.moved hm (fun _ => P6.out)
      have h7' := G7n.out.moved hm (fun _ => P7.out)
      go_roundw
      case rel => exact ⟨x + 1, by omega, by go_num, by rw [Hml.out]; exact ho, h6'.1, h7'.1, h6'.2 (by omega), h7'.2 (by omega), HP8.out.up hb (by omega), hb18.trans (hb.mono hgw), Nat.le_trans hsz8 hb.size⟩
      case measure => simp [intOf]; omega
    · obtain rfl : x = nP := by omega
      have hfin : (envL ps ws l).take x = envL ps ws l := List.take_of_length_le (by rw [envL_length]; have := Hl.out; omega)
      have HO2 := HO.out
      rw [hfin] at HO2
      go_wp2_with fail
      go_ret2
      exact ⟨_, by rw [Hpays.out]; rfl, by rw [Hval.out]; exact HO2.mono (by omega), hbel⟩
end Go.Proofs.YtnbomleieianoaaGreat
