/- Contracts: IsRule, by the program and by the reference. -/
import Derived.Test.YtjkkfjipgomkdaaRule2
import Derived.Test.YtjkkfjipgomkdaaTree4
namespace Go.Proofs.Ytjkkfjipgomkdaa
open Go.RowKit

def isRuleV (ps ws rule : List Int) : Bool := treeB ps ws && stopB ps rule
theorem isRule_no {ps ws rule : List Int} (h : treeB ps ws = false) : isRuleV ps ws rule = false := by rw [isRuleV, h]; rfl
theorem isRule_yes {ps ws rule : List Int} (h : treeB ps ws = true) : isRuleV ps ws rule = stopB ps rule := by rw [isRuleV, h]; rfl
set_option maxRecDepth 100000 in
set_option maxHeartbeats 1000000 in
theorem impl_IsStopping (aP : Option Addr) (nP cP : Nat) (aW : Option Addr) (nW cW : Nat) (ps ws : List Int) (aL : Option Addr) (nL cL : Nat) (l : List Int) (w : World) (h : Tre w aP nP cP aW nW cW ps ws) (hL : Ints w aL nL l) (_hLc : aL = none → cL = 0) (hn : nL ≤ 1048576) :
    Calls Try.prog 54 #[.agg #[.slice aP nP cP, .slice aW nW cW], .slice aL nL cL] w fun e w' => e = .returned (.tuple #[.bool (isRuleV ps ws l), .bool (treeB ps ws)]) ∧ Below w.heap.size w w' := by
  have hl := h.p.1
  have hlw := h.w.1
  have hpn := h.pn
  have hwn := h.wn
  have hb1 := below_new w (.cells #[.slice aP nP cP, .slice aW nW cW] 28)
  have hP1 := Lib.hid (Pair.new w (.slice aP nP cP) (.slice aW nW cW) 28)
  have H := Lib.hid h
  have Hl := Lib.hid hl
  have Hlw := Lib.hid hlw
  clear h hl hlw
  have HL := Lib.hid hL
  clear hL
  go_enter Try.func54, Try.ntmps54
  have c0 := hP1.out.c0
  have c1 := hP1.out.c1
  go_wp2_with fail
  generalize (w.alloc (.cells #[.slice aP nP cP, .slice aW nW cW] 28)) = w2 at *
  refine (impl_IsTree _ _ _ _ _ _ ps ws _ (H.out.below hb1)).mono ?_
  rintro e w3 ⟨rfl, hb3⟩
  have hP3 := hP1.out.below hb3
  have d0 := hP3.c0
  have d1 := hP3.c1
  have hb13 := hb1.trans (hb3.mono hb1.size)
  clear hP3 c0 c1 hb3 hP1
  cases hT : treeB ps ws
  · have Hv := Lib.hid (isRule_no (rule := l) hT)
    have HT := Lib.hid hT
    clear hT
    go_wp2_with fail
    go_ret2
    exact ⟨by rw [Hv.out, HT.out]; rfl, hb13⟩
  have Hv := Lib.hid (isRule_yes (rule := l) hT)
  have HTr := Lib.hid (treeB_t hT)
  have HT := Lib.hid hT
  clear hT
  go_wp2_with fail
  refine (impl_isStopping _ _ _ _ _ _ ps ws _ _ _ l _ (H.out.below hb13) HTr.out.toPa (HL.out.below hb13) hn).mono ?_
  rintro e w4 ⟨rfl, hb4⟩
  go_wp2_with fail
  go_ret2
  exact ⟨by rw [Hv.out, HT.out]; rfl, hb13.trans (hb4.mono hb13.size)⟩
theorem impl_IsRule (aP : Option Addr) (nP cP : Nat) (aW : Option Addr) (nW cW : Nat) (ps ws : List Int) (aL : Option Addr) (nL cL : Nat) (l : List Int) (w : World) (h : Tre w aP nP cP aW nW cW ps ws) (hL : Ints w aL nL l) (hLc : aL = none → cL = 0) (hn : nL ≤ 1048576) :
    Calls Try.prog 19 #[.agg #[.slice aP nP cP, .slice aW nW cW], .slice aL nL cL] w fun e w' => e = .returned (.tuple #[.bool (isRuleV ps ws l), .bool (treeB ps ws)]) ∧ Below w.heap.size w w' := by
  have hl := h.p.1
  have hlw := h.w.1
  have hpn := h.pn
  have hwn := h.wn
  have hb1 := below_new w (.cells #[.slice aP nP cP, .slice aW nW cW] 28)
  have hP1 := Lib.hid (Pair.new w (.slice aP nP cP) (.slice aW nW cW) 28)
  have H := Lib.hid h
  have Hl := Lib.hid hl
  have Hlw := Lib.hid hlw
  clear h hl hlw
  have HL := Lib.hid hL
  clear hL
  go_enter Try.func19, Try.ntmps19
  have c0 := hP1.out.c0
  have c1 := hP1.out.c1
  go_wp2_with fail
  generalize (w.alloc (.cells #[.slice aP nP cP, .slice aW nW cW] 28)) = w2 at *
  refine (impl_IsStopping _ _ _ _ _ _ ps ws _ _ _ l _ (H.out.below hb1) (HL.out.below hb1) hLc hn).mono ?_
  rintro e w3 ⟨rfl, hb3⟩
  go_wp2_with fail
  go_ret2
  exact ⟨rfl, hb1.trans (hb3.mono hb1.size)⟩
set_option maxRecDepth 100000 in
set_option maxHeartbeats 1000000 in
theorem spec_IsRule (aP : Option Addr) (nP cP : Nat) (aW : Option Addr) (nW cW : Nat) (ps ws : List Int) (aL : Option Addr) (nL cL : Nat) (l : List Int) (w : World) (h : Tre w aP nP cP aW nW cW ps ws) (hL : Ints w aL nL l) (_hLc : aL = none → cL = 0) (hn : nL ≤ 1048576) :
    Calls Try.prog 16 #[.agg #[.slice aP nP cP, .slice aW nW cW], .slice aL nL cL] w fun e w' => e = .returned (.tuple #[.bool (isRuleV ps ws l), .bool (treeB ps ws)]) ∧ Below w.heap.size w w' := by
  have hl := h.p.1
  have hlw := h.w.1
  have hpn := h.pn
  have hwn := h.wn
  have hb1 := below_new w (.cells #[.slice aP nP cP, .slice aW nW cW] 28)
  have hP1 := Lib.hid (Pair.new w (.slice aP nP cP) (.slice aW nW cW) 28)
  have H := Lib.hid h
  have Hl := Lib.hid hl
  have Hlw := Lib.hid hlw
  clear h hl hlw
  have HL := Lib.hid hL
  clear hL
  go_enter Try.func16, Try.ntmps16
  have c0 := hP1.out.c0
  have c1 := hP1.out.c1
  go_wp2_with fail
  generalize (w.alloc (.cells #[.slice aP nP cP, .slice aW nW cW] 28)) = w2 at *
  refine (spec_l2Good _ _ _ _ _ _ ps ws _ (H.out.below hb1)).mono ?_
  rintro e w3 ⟨rfl, hb3⟩
  have hP3 := hP1.out.below hb3
  have d0 := hP3.c0
  have d1 := hP3.c1
  have hb13 := hb1.trans (hb3.mono hb1.size)
  clear hP3 c0 c1 hb3 hP1
  cases hT : treeB ps ws
  · have Hv := Lib.hid (isRule_no (rule := l) hT)
    have HT := Lib.hid hT
    clear hT
    go_wp2_with fail
    go_ret2
    exact ⟨by rw [Hv.out, HT.out]; rfl, hb13⟩
  have HTr := Lib.hid (treeB_t hT)
  have Hv : Hid (isRuleV ps ws l = ruleB ps l) := Lib.hid (by rw [isRule_yes hT, rule_stop HTr.out.toPa])
  have HT := Lib.hid hT
  clear hT
  go_wp2_with fail
  refine (spec_l4Rule _ _ _ _ _ _ ps ws _ _ _ l _ (H.out.below hb13) HTr.out.toPa (HL.out.below hb13) hn).mono ?_
  rintro e w4 ⟨rfl, hb4⟩
  go_wp2_with fail
  go_ret2
  exact ⟨by rw [Hv.out, HT.out]; rfl, hb13.trans (hb4.mono hb13.size)⟩
end Go.Proofs.Ytjkkfjipgomkdaa
