/- Contracts: the earlier and the later one of two stoppings, and whether one is no later, by the program. -/
import Derived.Test.YtnbomleieianoaaMerge
import Derived.Test.YtnbomleieianoaaIsRule
namespace Go.Proofs.Ytnbomleieianoaa
open Go.RowKit

def twoB (ps ws a b : List Int) : Bool := treeB ps ws && (stopB ps a && stopB ps b)
theorem two_no1 {ps ws a b : List Int} (h : treeB ps ws = false) : twoB ps ws a b = false := by rw [twoB, h]; rfl
theorem two_no2 {ps ws a b : List Int} (h : stopB ps a = false) : twoB ps ws a b = false := by rw [twoB, h]; simp
theorem two_no3 {ps ws a b : List Int} (h : stopB ps b = false) : twoB ps ws a b = false := by rw [twoB, h]; simp
theorem two_yes {ps ws a b : List Int} (h : treeB ps ws = true) (ha : stopB ps a = true) (hb : stopB ps b = true) : twoB ps ws a b = true := by rw [twoB, h, ha, hb]; rfl
theorem two_t {ps ws a b : List Int} (h : twoB ps ws a b = true) : treeB ps ws = true ∧ stopB ps a = true ∧ stopB ps b = true := by simpa [twoB] using h
/-- The earlier (the later) one of two stoppings, none where they are no stoppings. -/
def erlV (ps ws a b : List Int) (early : Bool) : List Int := cond (twoB ps ws a b) (mergeV ps a b early) []
theorem erl_no {ps ws a b : List Int} {early : Bool} (h : twoB ps ws a b = false) : erlV ps ws a b early = [] := by rw [erlV, h]; rfl
theorem erl_yes {ps ws a b : List Int} {early : Bool} (h : twoB ps ws a b = true) : erlV ps ws a b early = mergeV ps a b early := by rw [erlV, h]; rfl
theorem erl_len {ps ws a b : List Int} {early : Bool} : (erlV ps ws a b early).length ≤ 24 := by
  cases h : twoB ps ws a b
  · rw [erl_no h]; exact Nat.zero_le _
  · rw [erl_yes h]
    have := filt_length (mergeP ps a b early (ends ps)) ps.length
    have := (treeB_t (two_t h).1).toPa.n24
    rw [mergeV]; omega
/-- Is the first one no later? -/
def noLV (ps ws a b : List Int) : Bool := twoB ps ws a b && noLaterB ps a b
theorem noL_no {ps ws a b : List Int} (h : twoB ps ws a b = false) : noLV ps ws a b = false := by rw [noLV, h]; rfl
theorem noL_yes {ps ws a b : List Int} (h : twoB ps ws a b = true) : noLV ps ws a b = noLaterB ps a b := by rw [noLV, h]; rfl
set_option maxRecDepth 100000 in
set_option maxHeartbeats 1000000 in
theorem impl_EarlierStop (aP : Option Addr) (nP cP : Nat) (aW : Option Addr) (nW cW : Nat) (ps ws : List Int) (aA : Option Addr) (nA cA : Nat) (a : List Int) (aB : Option Addr) (nB cB : Nat) (b : List Int) (w : World) (h : Tre w aP nP cP aW nW cW ps ws) (hA : Ints w aA nA a) (_hAc : aA = none → cA = 0) (hnA : nA ≤ 1048576) (hB : Ints w aB nB b) (_hBc : aB = none → cB = 0) (hnB : nB ≤ 1048576) :
    Calls Try.prog 74 #[.agg #[.slice aP nP cP, .slice aW nW cW], .slice aA nA cA, .slice aB nB cB] w fun e w' => ∃ v, e = .returned (.tuple #[v, .bool (twoB ps ws a b)]) ∧ Own w' w.heap.size v (erlV ps ws a b true) ∧ Below w.heap.size w w' := by
  have hl := h.p.1
  have hlw := h.w.1
  have hpn := h.pn
  have hwn := h.wn
  have hb1 := below_new w (.cells #[.slice aP nP cP, .slice aW nW cW] 26)
  have hP1 := Lib.hid (Pair.new w (.slice aP nP cP) (.slice aW nW cW) 26)
  have H := Lib.hid h
  have Hl := Lib.hid hl
  have Hlw := Lib.hid hlw
  clear h hl hlw
  have HA := Lib.hid hA
  have HB := Lib.hid hB
  clear hA hB
  go_enter Try.func74, Try.ntmps74
  have c0 := hP1.out.c0
  have c1 := hP1.out.c1
  go_wp2_with fail
  generalize (w.alloc (.cells #[.slice aP nP cP, .slice aW nW cW] 26)) = w2 at *
  refine (impl_IsTree _ _ _ _ _ _ ps ws _ (H.out.below hb1)).mono ?_
  rintro e w3 ⟨rfl, hb3⟩
  have HP3 := Lib.hid (hP1.out.below hb3)
  have d0 := HP3.out.c0
  have d1 := HP3.out.c1
  have hb13 := hb1.trans (hb3.mono hb1.size)
  clear c0 c1 hb3 hP1
  cases hT : treeB ps ws
  · have Hv := Lib.hid (two_no1 (a := a) (b := b) hT)
    clear hT
    go_wp2_with fail
    go_ret2
    exact ⟨_, by rw [Hv.out]; rfl, by rw [erl_no Hv.out]; exact Own.nil _ _, hb13⟩
  have HT := Lib.hid hT
  have HTr := Lib.hid (treeB_t hT)
  clear hT
  go_wp2_with fail
  refine (impl_isStopping _ _ _ _ _ _ ps ws _ _ _ a _ (H.out.below hb13) HTr.out.toPa (HA.out.below hb13) hnA).mono ?_
  rintro e w4 ⟨rfl, hb4⟩
  have HP4 := Lib.hid (HP3.out.below hb4)
  have e0 := HP4.out.c0
  have e1 := HP4.out.c1
  have hb14 := hb13.trans (hb4.mono hb13.size)
  clear d0 d1 hb4 HP3
  cases hS : stopB ps a
  · have Hv := Lib.hid (two_no2 (ws := ws) (b := b) hS)
    clear hS
    go_wp2_with fail
    go_ret2
    exact ⟨_, by rw [Hv.out]; rfl, by rw [erl_no Hv.out]; exact Own.nil _ _, hb14⟩
  have HS := Lib.hid hS
  clear hS
  go_wp2_with fail
  refine (impl_isStopping _ _ _ _ _ _ ps ws _ _ _ b _ (H.out.below hb14) HTr.out.toPa (HB.out.below hb14) hnB).mono ?_
  rintro e w5 ⟨rfl, hb5⟩
  have HP5 := Lib.hid (HP4.out.below hb5)
  have f0 := HP5.out.c0
  have f1 := HP5.out.c1
  have hb15 := hb14.trans (hb5.mono hb14.size)
  clear e0 e1 hb5 HP4
  cases hS2 : stopB ps b
  · have Hv := Lib.hid (two_no3 (ws := ws) (a := a) hS2)
    clear hS2
    go_wp2_with fail
    go_ret2
    exact ⟨_, by rw [Hv.out]; rfl, by rw [erl_no Hv.out]; exact Own.nil _ _, hb15⟩
  have HS2 := Lib.hid hS2
  clear hS2
  have Hv := Lib.hid (two_yes HT.out HS.out HS2.out)
  go_wp2_with fail
  refine (impl_merged _ _ _ _ _ _ ps ws _ _ _ a _ _ _ b true _ (H.out.below hb15) HTr.out.toPa (HA.out.below hb15) (HB.out.below hb15) hnA hnB HS.out HS2.out).mono ?_
  rintro e w6 ⟨v6, rfl, ho6, hb6⟩
  go_wp2_with fail
  go_ret2
  exact ⟨_, by rw [Hv.out]; rfl, by rw [erl_yes Hv.out]; exact ho6.mono hb15.size, hb15.trans (hb6.mono hb15.size)⟩
set_option maxRecDepth 100000 in
set_option maxHeartbeats 1000000 in
theorem impl_LaterStop (aP : Option Addr) (nP cP : Nat) (aW : Option Addr) (nW cW : Nat) (ps ws : List Int) (aA : Option Addr) (nA cA : Nat) (a : List Int) (aB : Option Addr) (nB cB : Nat) (b : List Int) (w : World) (h : Tre w aP nP cP aW nW cW ps ws) (hA : Ints w aA nA a) (_hAc : aA = none → cA = 0) (hnA : nA ≤ 1048576) (hB : Ints w aB nB b) (_hBc : aB = none → cB = 0) (hnB : nB ≤ 1048576) :
    Calls Try.prog 81 #[.agg #[.slice aP nP cP, .slice aW nW cW], .slice aA nA cA, .slice aB nB cB] w fun e w' => ∃ v, e = .returned (.tuple #[v, .bool (twoB ps ws a b)]) ∧ Own w' w.heap.size v (erlV ps ws a b false) ∧ Below w.heap.size w w' := by
  have hl := h.p.1
  have hlw := h.w.1
  have hpn := h.pn
  have hwn := h.wn
  have hb1 := below_new w (.cells #[.slice aP nP cP, .slice aW nW cW] 26)
  have hP1 := Lib.hid (Pair.new w (.slice aP nP cP) (.slice aW nW cW) 26)
  have H := Lib.hid h
  have Hl := Lib.hid hl
  have Hlw := Lib.hid hlw
  clear h hl hlw
  have HA := Lib.hid hA
  have HB := Lib.hid hB
  clear hA hB
  go_enter Try.func81, Try.ntmps81
  have c0 := hP1.out.c0
  have c1 := hP1.out.c1
  go_wp2_with fail
  generalize (w.alloc (.cells #[.slice aP nP cP, .slice aW nW cW] 26)) = w2 at *
  refine (impl_IsTree _ _ _ _ _ _ ps ws _ (H.out.below hb1)).mono ?_
  rintro e w3 ⟨rfl, hb3⟩
  have HP3 := Lib.hid (hP1.out.below hb3)
  have d0 := HP3.out.c0
  have d1 := HP3.out.c1
  have hb13 := hb1.trans (hb3.mono hb1.size)
  clear c0 c1 hb3 hP1
  cases hT : treeB ps ws
  · have Hv := Lib.hid (two_no1 (a := a) (b := b) hT)
    clear hT
    go_wp2_with fail
    go_ret2
    exact ⟨_, by rw [Hv.out]; rfl, by rw [erl_no Hv.out]; exact Own.nil _ _, hb13⟩
  have HT := Lib.hid hT
  have HTr := Lib.hid (treeB_t hT)
  clear hT
  go_wp2_with fail
  refine (impl_isStopping _ _ _ _ _ _ ps ws _ _ _ a _ (H.out.below hb13) HTr.out.toPa (HA.out.below hb13) hnA).mono ?_
  rintro e w4 ⟨rfl, hb4⟩
  have HP4 := Lib.hid (HP3.out.below hb4)
  have e0 := HP4.out.c0
  have e1 := HP4.out.c1
  have hb14 := hb13.trans (hb4.mono hb13.size)
  clear d0 d1 hb4 HP3
  cases hS : stopB ps a
  · have Hv := Lib.hid (two_no2 (ws := ws) (b := b) hS)
    clear hS
    go_wp2_with fail
    go_ret2
    exact ⟨_, by rw [Hv.out]; rfl, by rw [erl_no Hv.out]; exact Own.nil _ _, hb14⟩
  have HS := Lib.hid hS
  clear hS
  go_wp2_with fail
  refine (impl_isStopping _ _ _ _ _ _ ps ws _ _ _ b _ (H.out.below hb14) HTr.out.toPa (HB.out.below hb14) hnB).mono ?_
  rintro e w5 ⟨rfl, hb5⟩
  have HP5 := Lib.hid (HP4.out.below hb5)
  have f0 := HP5.out.c0
  have f1 := HP5.out.c1
  have hb15 := hb14.trans (hb5.mono hb14.size)
  clear e0 e1 hb5 HP4
  cases hS2 : stopB ps b
  · have Hv := Lib.hid (two_no3 (ws := ws) (a := a) hS2)
    clear hS2
    go_wp2_with fail
    go_ret2
    exact ⟨_, by rw [Hv.out]; rfl, by rw [erl_no Hv.out]; exact Own.nil _ _, hb15⟩
  have HS2 := Lib.hid hS2
  clear hS2
  have Hv := Lib.hid (two_yes HT.out HS.out HS2.out)
  go_wp2_with fail
  refine (impl_merged _ _ _ _ _ _ ps ws _ _ _ a _ _ _ b false _ (H.out.below hb15) HTr.out.toPa (HA.out.below hb15) (HB.out.below hb15) hnA hnB HS.out HS2.out).mono ?_
  rintro e w6 ⟨v6, rfl, ho6, hb6⟩
  go_wp2_with fail
  go_ret2
  exact ⟨_, by rw [Hv.out]; rfl, by rw [erl_yes Hv.out]; exact ho6.mono hb15.size, hb15.trans (hb6.mono hb15.size)⟩
end Go.Proofs.Ytnbomleieianoaa
